/-
  Contracts of package ring.
-/
import Derived.Test.YtdoamelhclnphaaBytes
import Derived.Test.YtdoamelhclnphaaProg
import Derived.BigRegion
import Derived.Deep.QuietTactic
import Derived.BigQuiet
import Derived.LoopN
namespace Go.Proofs.Ytdoamelhclnphaa
open Go.RowKit
set_option maxRecDepth 100000

/-- A ring buffer's own block. -/
def RgB (w : World) (R D c K f n : Nat) : Prop :=
  w.heap[R]? = some (.cells #[.slice (some ⟨D, 0, none⟩) c K, .int .i64 f, .int .i64 n] 167 (0, 0))
theorem RgB.cells {w : World} {R D c K f n : Nat} (h : RgB w R D c K f n) : w.cell? ⟨R, 0, none⟩ = some (.slice (some ⟨D, 0, none⟩) c K) ∧ w.cell? ⟨R, 1, none⟩ = some (.int .i64 f) ∧ w.cell? ⟨R, 2, none⟩ = some (.int .i64 n) ∧ w.frozen? ⟨R, 1, none⟩ = false ∧ w.frozen? ⟨R, 2, none⟩ = false :=
  ⟨cell_of h, cell_of h, cell_of h, free_of h, free_of h⟩

theorem zero_nil (w : World) : Calls Try.prog 121 #[.pointer none] w fun e w' => e = .returned (.bool true) ∧ w = w' := by
  go_enter Try.func121, Try.ntmps121
  go_wp2
  go_ret
  exact ⟨rfl, rfl⟩
theorem zero_zero {w : World} {R : Nat} (h : w.cell? ⟨R, 0, none⟩ = some (.slice none 0 0)) : Calls Try.prog 121 #[.pointer (some ⟨R, 0, none⟩)] w fun e w' => e = .returned (.bool true) ∧ w = w' := by
  have qT : ∀ (w : World) (a : Option Addr) (n c n' c' : Nat), (binOp .eql 29 (.slice a n c) (.slice none n' c')).run Try.prog w = .ok (.bool a.isNone) w := fun w a n c n' c' => Lib.run_eql_slice_nil w _ _ a n c n' c' Try.underlying29
  go_enter Try.func121, Try.ntmps121
  go_wp2
  go_ret
  exact ⟨rfl, rfl⟩
theorem zero_at {w : World} {R D c K f n : Nat} (h : RgB w R D c K f n) : Calls Try.prog 121 #[.pointer (some ⟨R, 0, none⟩)] w fun e w' => e = .returned (.bool false) ∧ w = w' := by
  obtain ⟨c0, _, _, _, _⟩ := h.cells
  have qT : ∀ (w : World) (a : Option Addr) (n c n' c' : Nat), (binOp .eql 29 (.slice a n c) (.slice none n' c')).run Try.prog w = .ok (.bool a.isNone) w := fun w a n c n' c' => Lib.run_eql_slice_nil w _ _ a n c n' c' Try.underlying29
  go_enter Try.func121, Try.ntmps121
  go_wp2
  go_ret
  exact ⟨rfl, rfl⟩

/-- The two pieces that k places from an offset on have. -/
theorem pieces_none {w : World} {R D c K f n : Nat} (h : RgB w R D c K f n) (hc : c ≤ 4096) (hK : c ≤ K) (hf : f < c) (off a : Nat) (hok : off ≤ c) (ha : (f + off) % c = a) :
    Calls Try.prog 127 #[.pointer (some ⟨R, 0, none⟩), .int .i64 off, .int .i64 0] w fun e w' =>
      e = .returned (.agg #[.slice (some ⟨D, 0, none⟩) 0 0, .slice (some ⟨D, 0, none⟩) 0 0]) ∧ Fr [] w w' := by
  obtain ⟨c0, c1, c2, _, _⟩ := h.cells
  have hcz : ((c : Int) == 0) = false := by simp; omega
  have hlt := lt_of_heap h
  have hmod : ((f : Int) + (off : Int)) % (c : Int) = (a : Int) := by simp [← ha]
  have hac : a < c := by rw [← ha]; exact Nat.mod_lt _ (by omega)
  have HA := Lib.hid ha
  clear ha h
  go_enter Try.func127, Try.ntmps127
  go_wp2_with fail
  go_region
  go_wp2_with fail
  go_region
  go_wp2_with fail
  refine bodyPost_ret (v := .agg #[.slice (some ⟨D, 0, none⟩) 0 0, .slice (some ⟨D, 0, none⟩) 0 0]) (by simp [results, Try.results127, go_sem]) rfl ⟨rfl, ?_⟩
  repeat first | (with_reducible exact Fr.refl _ _) | (with_reducible refine Fr.drew ?_) | (with_reducible refine Fr.alloc ?_ _) | (with_reducible refine Fr.setCell ?_ (.inr (by dsimp only; omega)) _)

theorem pieces_one {w : World} {R D c K f n : Nat} (h : RgB w R D c K f n) (hc : c ≤ 4096) (hK : c ≤ K) (hf : f < c) (off k a : Nat) (hok : off + k ≤ c) (ha : (f + off) % c = a) (hk0 : 0 < k) (hk : a + k ≤ c) :
    Calls Try.prog 127 #[.pointer (some ⟨R, 0, none⟩), .int .i64 off, .int .i64 k] w fun e w' =>
      e = .returned (.agg #[.slice (some ⟨D, a, none⟩) k k, .slice (some ⟨D, 0, none⟩) 0 0]) ∧ Fr [] w w' := by
  obtain ⟨c0, c1, c2, _, _⟩ := h.cells
  have hcz : ((c : Int) == 0) = false := by simp; omega
  have hlt := lt_of_heap h
  have hmod : ((f : Int) + (off : Int)) % (c : Int) = (a : Int) := by simp [← ha]
  have hac : a < c := by rw [← ha]; exact Nat.mod_lt _ (by omega)
  have HA := Lib.hid ha
  clear ha h
  go_enter Try.func127, Try.ntmps127
  go_wp2_with fail
  go_region
  go_wp2_with fail
  go_region
  go_wp2_with fail
  refine bodyPost_ret (v := .agg #[.slice (some ⟨D, a, none⟩) k k, .slice (some ⟨D, 0, none⟩) 0 0]) (by simp [results, Try.results127, go_sem]) rfl ⟨rfl, ?_⟩
  repeat first | (with_reducible exact Fr.refl _ _) | (with_reducible refine Fr.drew ?_) | (with_reducible refine Fr.alloc ?_ _) | (with_reducible refine Fr.setCell ?_ (.inr (by dsimp only; omega)) _)

theorem pieces_two {w : World} {R D c K f n : Nat} (h : RgB w R D c K f n) (hc : c ≤ 4096) (hK : c ≤ K) (hf : f < c) (off k a : Nat) (hok : off + k ≤ c) (ha : (f + off) % c = a) (hk : c < a + k) :
    Calls Try.prog 127 #[.pointer (some ⟨R, 0, none⟩), .int .i64 off, .int .i64 k] w fun e w' =>
      e = .returned (.agg #[.slice (some ⟨D, a, none⟩) (c - a) (c - a), .slice (some ⟨D, 0, none⟩) (k - (c - a)) (k - (c - a))]) ∧ Fr [] w w' := by
  obtain ⟨c0, c1, c2, _, _⟩ := h.cells
  have hcz : ((c : Int) == 0) = false := by simp; omega
  have hlt := lt_of_heap h
  have hmod : ((f : Int) + (off : Int)) % (c : Int) = (a : Int) := by simp [← ha]
  have hac : a < c := by rw [← ha]; exact Nat.mod_lt _ (by omega)
  have HA := Lib.hid ha
  clear ha h
  go_enter Try.func127, Try.ntmps127
  go_wp2_with fail
  go_region
  go_wp2_with fail
  go_region
  go_wp2_with fail
  refine bodyPost_ret (v := .agg #[.slice (some ⟨D, a, none⟩) (c - a) (c - a), .slice (some ⟨D, 0, none⟩) (k - (c - a)) (k - (c - a))]) (by simp [results, Try.results127, go_sem]) rfl ⟨rfl, ?_⟩
  repeat first | (with_reducible exact Fr.refl _ _) | (with_reducible refine Fr.drew ?_) | (with_reducible refine Fr.alloc ?_ _) | (with_reducible refine Fr.setCell ?_ (.inr (by dsimp only; omega)) _)
end Go.Proofs.Ytdoamelhclnphaa

namespace Go.Proofs.Ytdoamelhclnphaa

/-- The place of the i-th byte. -/
def idx (c f i : Nat) : Nat := if f + i < c then f + i else f + i - c
/-- The bytes that a ring holds: n of them from place f on. -/
def ringQ (bs : List Int) (f n : Nat) : List Int := (List.range n).map fun i => bs.getD (idx bs.length f i) 0

theorem ringQ_length (bs : List Int) (f n : Nat) : (ringQ bs f n).length = n := by simp [ringQ]
theorem ringQ_getD (bs : List Int) (f n i : Nat) (h : i < n) : (ringQ bs f n).getD i 0 = bs.getD (idx bs.length f i) 0 := by
  simp [ringQ, List.getD, h]

theorem ext_getD {L M : List Int} (hl : L.length = M.length) (h : ∀ i, i < L.length → L.getD i 0 = M.getD i 0) : L = M := by
  apply List.ext_getElem hl
  intro i h1 h2
  have := h i h1
  simpa [List.getD, h1, h2] using this

theorem getD_append (L M : List Int) (i : Nat) : (L ++ M).getD i 0 = if i < L.length then L.getD i 0 else M.getD (i - L.length) 0 := by
  simp only [List.getD, List.getElem?_append]
  split <;> rfl
theorem getD_take (L : List Int) (k i : Nat) (h : i < k) : (L.take k).getD i 0 = L.getD i 0 := by
  simp [List.getD, h]
theorem getD_drop (L : List Int) (k i : Nat) : (L.drop k).getD i 0 = L.getD (k + i) 0 := by
  simp [List.getD, List.getElem?_drop]

theorem mod_idx {c f i : Nat} (hf : f < c) (hi : i < c) : (f + i) % c = idx c f i := by
  unfold idx
  split
  · exact Nat.mod_eq_of_lt ‹_›
  · rw [Nat.mod_eq_sub_mod (by omega)]; exact Nat.mod_eq_of_lt (by omega)

theorem ringQ_write {bs X : List Int} {c f n k k1 k2 a : Nat} (hc : bs.length = c) (hf : f < c) (hX : X.length = k) (hk : n + k ≤ c) (hk12 : k1 + k2 = k) (ha : 0 < k → a = idx c f n) (h1 : a + k1 ≤ c) (h2 : 0 < k2 → a + k1 = c) :
    ringQ (splice (splice bs a (X.take k1)) 0 (X.drop k1)) f (n + k) = ringQ bs f n ++ X := by
  have e1 : (X.take k1).length = k1 := by simp; omega
  have e2 : (X.drop k1).length = k2 := by simp; omega
  have l1 : (splice bs a (X.take k1)).length = c := by rw [length_splice _ _ _ (by omega)]; exact hc
  have l2 : (splice (splice bs a (X.take k1)) 0 (X.drop k1)).length = c := by
    rw [length_splice _ _ _ (by rw [l1, e2]; omega)]; exact l1
  apply ext_getD
  · simp [ringQ_length, hX]
  · intro i hi
    rw [ringQ_length] at hi
    rw [ringQ_getD _ _ _ _ hi, l2, getD_append, ringQ_length, splice_getD _ _ _ _ (by rw [l1, e2]; omega), splice_getD _ _ _ _ (by rw [hc, e1]; omega), e1, e2]
    have hid : idx c f i = if f + i < c then f + i else f + i - c := rfl
    have hia : idx c f n = if f + n < c then f + n else f + n - c := rfl
    by_cases hin : i < n
    · rw [if_pos hin, ringQ_getD _ _ _ _ hin, hc]
      by_cases hk0 : 0 < k
      · have ha' := ha hk0
        rw [if_neg (by split at hid <;> split at hia <;> omega), if_neg (by split at hid <;> split at hia <;> omega)]
      · rw [if_neg (by omega), if_neg (by omega)]
    · rw [if_neg hin]
      have ha' := ha (by omega)
      by_cases hz : idx c f i < k2
      · rw [if_pos (by omega), getD_drop]
        congr 1
        have := h2 (by omega)
        split at hid <;> split at hia <;> omega
      · rw [if_neg (by omega), if_pos (by split at hid <;> split at hia <;> omega), getD_take _ _ _ (by split at hid <;> split at hia <;> omega)]
        congr 1
        split at hid <;> split at hia <;> omega

theorem ringQ_skip {bs : List Int} {c f n k k1 k2 a : Nat} (hc : bs.length = c) (hf : f < c) (hn : n ≤ c) (hk : k ≤ n) (hk12 : k1 + k2 = k) (ha : 0 < k → a = f) (h1 : a + k1 ≤ c) (h2 : 0 < k2 → a + k1 = c) :
    ringQ (splice (splice bs a (List.replicate k1 0)) 0 (List.replicate k2 0)) ((f + k) % c) (n - k) = (ringQ bs f n).drop k := by
  have e1 : (List.replicate k1 (0 : Int)).length = k1 := by simp
  have e2 : (List.replicate k2 (0 : Int)).length = k2 := by simp
  have l1 : (splice bs a (List.replicate k1 0)).length = c := by rw [length_splice _ _ _ (by omega)]; exact hc
  have l2 : (splice (splice bs a (List.replicate k1 0)) 0 (List.replicate k2 0)).length = c := by
    rw [length_splice _ _ _ (by rw [l1, e2]; omega)]; exact l1
  apply ext_getD
  · simp [ringQ_length]
  · intro i hi
    rw [ringQ_length] at hi
    rw [ringQ_getD _ _ _ _ hi, l2, getD_drop, ringQ_getD _ _ _ _ (by omega), hc, splice_getD _ _ _ _ (by rw [l1, e2]; omega), splice_getD _ _ _ _ (by rw [hc, e1]; omega), e1, e2]
    have hm : (f + k) % c = idx c f k := mod_idx hf (by omega)
    rw [hm]
    have h0 : idx c f k = if f + k < c then f + k else f + k - c := rfl
    have h3 : idx c (idx c f k) i = if idx c f k + i < c then idx c f k + i else idx c f k + i - c := rfl
    have h4 : idx c f (k + i) = if f + (k + i) < c then f + (k + i) else f + (k + i) - c := rfl
    have e : idx c (idx c f k) i = idx c f (k + i) := by split at h0 <;> split at h3 <;> split at h4 <;> omega
    rw [e]
    by_cases hk0 : 0 < k
    · have ha' := ha hk0
      rw [if_neg (by split at h4 <;> omega), if_neg (by split at h4 <;> omega)]
    · rw [if_neg (by omega), if_neg (by omega)]

/-- What is looked at: the places from the offset on. -/
theorem ringQ_peek {bs : List Int} {c f n off m k1 k2 a : Nat} (hc : bs.length = c) (hf : f < c) (hn : n ≤ c) (hm : off + m ≤ n) (hk12 : k1 + k2 = m) (ha : 0 < m → a = idx c f off) (h1 : a + k1 ≤ c) (h2 : 0 < k2 → a + k1 = c) :
    (bs.drop a).take k1 ++ bs.take k2 = ((ringQ bs f n).drop off).take m := by
  have l1 : ((bs.drop a).take k1).length = k1 := by simp; omega
  have l2 : (bs.take k2).length = k2 := by
    simp
    by_cases h : 0 < k2
    · have := h2 h; omega
    · omega
  apply ext_getD
  · simp [ringQ_length, l1]; omega
  · intro i hi
    rw [List.length_append, l1, l2] at hi
    rw [getD_append, l1, getD_take ((ringQ bs f n).drop off) m i (by omega), getD_drop (ringQ bs f n), ringQ_getD _ _ _ _ (by omega), hc]
    have ha' := ha (by omega)
    have h3 : idx c f off = if f + off < c then f + off else f + off - c := rfl
    have h4 : idx c f (off + i) = if f + (off + i) < c then f + (off + i) else f + (off + i) - c := rfl
    by_cases hi1 : i < k1
    · rw [if_pos hi1, getD_take _ _ _ hi1, getD_drop]
      congr 1
      split at h3 <;> split at h4 <;> omega
    · rw [if_neg hi1, getD_take _ _ _ (by omega)]
      have := h2 (by omega)
      congr 1
      split at h3 <;> split at h4 <;> omega
theorem splice_take {bs X : List Int} {a c : Nat} (hc : c ≤ bs.length) (h : a + X.length ≤ c) : (splice bs a X).take c = splice (bs.take c) a X := by
  apply ext_getD
  · rw [List.length_take, length_splice _ _ _ (by omega), length_splice _ _ _ (by rw [List.length_take]; omega), List.length_take]
  · intro i hi
    rw [List.length_take, length_splice _ _ _ (by omega)] at hi
    rw [getD_take _ _ _ (by omega), splice_getD _ _ _ _ (by omega), splice_getD _ _ _ _ (by rw [List.length_take]; omega)]
    split
    · rfl
    · exact (getD_take _ _ _ (by omega)).symm
end Go.Proofs.Ytdoamelhclnphaa

namespace Go.Proofs.Ytdoamelhclnphaa
open Go.RowKit
set_option maxRecDepth 100000

/-- The two pieces, whichever way: k1 bytes from a on, k2 from the beginning on. -/
def PcPost (D c a k : Nat) (w : World) (e : Ending) (w' : World) : Prop :=
  ∃ o1 k1 k2 : Nat, e = .returned (.agg #[.slice (some ⟨D, o1, none⟩) k1 k1, .slice (some ⟨D, 0, none⟩) k2 k2]) ∧ k1 + k2 = k ∧ (0 < k1 → o1 = a) ∧ a + k1 ≤ c ∧ (0 < k2 → a + k1 = c) ∧ k2 ≤ c ∧ Fr [] w w'

theorem pieces_any {w : World} {R D c K f n : Nat} (h : RgB w R D c K f n) (hc : c ≤ 4096) (hK : c ≤ K) (hf : f < c) (off k a : Nat) (hok : off + k ≤ c) (ha : (f + off) % c = a) :
    Calls Try.prog 127 #[.pointer (some ⟨R, 0, none⟩), .int .i64 off, .int .i64 k] w (PcPost D c a k w) := by
  have hac : a < c := by rw [← ha]; exact Nat.mod_lt _ (by omega)
  by_cases h0 : k = 0
  · subst h0
    exact (pieces_none h hc hK hf off a (by omega) ha).mono fun e w' ⟨he, hf⟩ => ⟨0, 0, 0, he, rfl, by omega, by omega, by omega, by omega, hf⟩
  · by_cases h1 : a + k ≤ c
    · exact (pieces_one h hc hK hf off k a hok ha (by omega) h1).mono fun e w' ⟨he, hf⟩ => ⟨a, k, 0, he, rfl, fun _ => rfl, h1, by omega, by omega, hf⟩
    · exact (pieces_two h hc hK hf off k a hok ha (by omega)).mono fun e w' ⟨he, hf⟩ => ⟨a, c - a, k - (c - a), he, by omega, fun _ => rfl, by omega, by omega, by omega, hf⟩

theorem len_at {w : World} {R D c K f n : Nat} (h : RgB w R D c K f n) : Calls Try.prog 101 #[.pointer (some ⟨R, 0, none⟩)] w fun e w' => e = .returned (.int .i64 n) ∧ w = w' := by
  obtain ⟨c0, c1, c2, _, _⟩ := h.cells
  go_enter Try.func101, Try.ntmps101
  go_wp2_with (go_at_call 121; refine (zero_at h).mono ?_; rintro e w' ⟨rfl, rfl⟩)
  go_ret
  exact ⟨rfl, rfl⟩
theorem cap_at {w : World} {R D c K f n : Nat} (h : RgB w R D c K f n) : Calls Try.prog 125 #[.pointer (some ⟨R, 0, none⟩)] w fun e w' => e = .returned (.int .i64 c) ∧ w = w' := by
  obtain ⟨c0, c1, c2, _, _⟩ := h.cells
  go_enter Try.func125, Try.ntmps125
  go_wp2_with (go_at_call 121; refine (zero_at h).mono ?_; rintro e w' ⟨rfl, rfl⟩)
  go_ret
  exact ⟨rfl, rfl⟩
theorem free_at {w : World} {R D c K f n : Nat} (h : RgB w R D c K f n) (hc : c ≤ 4096) (hn : n ≤ c) : Calls Try.prog 117 #[.pointer (some ⟨R, 0, none⟩)] w fun e w' => e = .returned (.int .i64 ((c : Int) - n)) ∧ w = w' := by
  go_enter Try.func117, Try.ntmps117
  go_wp2_with (first | (go_at_call 125; refine (cap_at h).mono ?_; rintro e w' ⟨rfl, rfl⟩) | (go_at_call 101; refine (len_at h).mono ?_; rintro e w' ⟨rfl, rfl⟩))
  go_ret
  exact ⟨rfl, rfl⟩

/-- A slice of a slice of bytes. -/
def cutp (pa : Option Addr) (cap l : Nat) : Option Addr := if cap = l then pa else pa.map (·.add l)
theorem cutp_sl {w : World} {pa : Option Addr} {ps : List Int} {cap l k : Nat} (h : Sl w pa ps) (hcap : ps.length ≤ cap) (hk : l + k ≤ ps.length) : Sl w (cutp pa cap l) ((ps.drop l).take k) := by
  intro h0
  have hl : ((ps.drop l).take k).length = k := by simp; omega
  rw [hl] at h0
  obtain ⟨b, o, rfl, hb, hc⟩ := h (by omega)
  refine ⟨b, o + l, ?_, hb, fun i hi => ?_⟩
  · unfold cutp
    rw [if_neg (by omega)]
    simp [Addr.add_lit]
  · rw [hl] at hi
    rw [Nat.add_assoc, hc (l + i) (by omega), getD_take _ _ _ hi, getD_drop]

theorem run_cutp {pa : Option Addr} {plen pcap l h : Nat} (hl : l ≤ h) (hh : h ≤ pcap) (w : World) :
    (Instr.slice 29 (.slice pa plen pcap) (some (.int .i64 l)) (some (.int .i64 h)) none).run Try.prog w = .ok (.slice (cutp pa pcap l) (h - l) (pcap - l)) w := by
  have hs : ∀ w, (sizeOf (Try.prog.elem 29)).run Try.prog w = .ok 1 w := fun _ => by kernel_rfl
  have h1 := run_slice_lh (P := Try.prog) (w := w) (t := 29) (a := pa) (len := plen) (cap := pcap) (by kernel_rfl) .i64 .i64 (l : Int) (h : Int) (by omega) (by omega) (by omega)
  rw [h1, hs]
  simp [Result.andThen, sliced, cutp]

theorem sl_keep {w w' : World} {pa : Option Addr} {ps : List Int} (h : Sl w pa ps) {S : List Nat} (hf : Fr S w w') (hS : 0 < ps.length → ∀ b o, pa = some ⟨b, o, none⟩ → b ∉ S) : Sl w' pa ps := by
  intro h0
  obtain ⟨b, o, rfl, hb, hc⟩ := h h0
  exact ⟨b, o, rfl, Nat.lt_of_lt_of_le hb hf.size, fun i hi => (World.cell?_of_block (w := w) (hf.block b hb (hS h0 b o rfl))).trans (hc i hi)⟩

/-- What Write leaves. -/
def WrPost (R D c K f n k : Nat) (J : List Value) (bs' : List Int) (w : World) (e : Ending) (w' : World) : Prop :=
  e = .returned (.tuple #[.int .i64 k, .int .i64 0]) ∧ Fr [R, D] w w' ∧ RgB w' R D c K f (n + k) ∧ RowJ w' D bs' J

theorem write_ok {w : World} {R D c K f n k : Nat} {bs ps : List Int} {J : List Value} (h : RgB w R D c K f n) (hb : RowJ w D bs J) (hlen : c ≤ bs.length) (hc : c ≤ 4096) (hK : c ≤ K) (hf : f < c) (hn : n ≤ c) (hRD : R ≠ D)
    {pa : Option Addr} {plen pcap : Nat} (hpl : plen = ps.length) (hcap : plen ≤ pcap) (hsl : Sl w pa ps) (hpd : 0 < ps.length → ∀ b o, pa = some ⟨b, o, none⟩ → b ≠ D) (hmax : plen ≤ 65536) (hk : k = min plen (c - n)) :
    Calls Try.prog 119 #[.pointer (some ⟨R, 0, none⟩), .slice pa plen pcap] w fun e w' =>
      ∃ bs', WrPost R D c K f n k J bs' w e w' ∧ bs'.length = bs.length ∧ ringQ (bs'.take c) f (n + k) = ringQ (bs.take c) f n ++ ps.take k := by

  obtain ⟨c0, c1, c2, _, _⟩ := h.cells
  have hcn : (((c : Int) - n) : Int) = ((c - n : Nat) : Int) := by omega
  have hmi : min (plen : Int) ((c : Int) - n) = (k : Int) := by omega
  have HM := Lib.hid hmi
  have HK := Lib.hid hk
  have hk1 : k ≤ plen := by omega
  have hk2 : n + k ≤ c := by omega
  have HPL := Lib.hid hpl
  have HLN := Lib.hid hlen
  clear hmi hk hcn hpl hlen
  go_enter Try.func119, Try.ntmps119
  go_wp2_with fail
  refine (zero_at h).mono ?_
  rintro e w' ⟨rfl, rfl⟩
  go_wp2_with fail
  refine (free_at h hc hn).mono ?_
  rintro e w' ⟨rfl, rfl⟩
  have hL := lt_of_heap h
  have hDl := lt_of_heap hb
  have hsz : (Try.prog.info? 5).map (·.size) = some 1 := by kernel_rfl
  have hi0 : ∀ (x0 x1 : Value) (w : World), (Instr.index 91 (.agg #[x0, x1]) (.int .i64 0)).run Try.prog w = .ok x0 w := fun _ _ _ => by kernel_rfl
  have hi1 : ∀ (x0 x1 : Value) (w : World), (Instr.index 91 (.agg #[x0, x1]) (.int .i64 1)).run Try.prog w = .ok x1 w := fun _ _ _ => by kernel_rfl
  have hsp : ((plen : Int) ≤ (c : Int) - n ∧ (plen : Int) = (k : Int)) ∨ ((c : Int) - n < (plen : Int) ∧ (c : Int) - n = (k : Int)) := by have := HM.out; omega
  rcases hsp with ⟨hmin, hkk⟩ | ⟨hmin, hkk⟩
  all_goals
    go_wp2_with fail
    refine (pieces_any h hc hK hf n k _ hk2 rfl).mono ?_
    rintro e w1 ⟨o1, k1, k2, rfl, hk12, ho, ha1, ha2, hk2c, f1⟩
    have h1 : RgB w1 R D c K f n := f1.keep h (by simp)
    have b1 : RowJ w1 D bs J := f1.keep hb (by simp)
    have hsl1 : Sl w1 pa ps := sl_keep hsl f1 (by simp)
    have hpl' := HPL.out
    have hln' := HLN.out
    generalize hav : (f + n) % c = av at *
    have C3 := cutp_sl (cap := pcap) (l := 0) (k := k1) hsl1 (by omega) (by omega)
    rw [List.drop_zero] at C3
    have C4 : av + k1 ≤ bs.length := by omega
    have L1 : (ps.take k1).length = k1 := by simp; omega
    have Cn : k1 = Nat.min k k1 := by simp [Nat.min_def]; omega
    have hs0 : ∀ w, (Instr.slice 29 (.slice pa plen pcap) (some (.int .i64 0)) (some (.int .i64 k)) none).run Try.prog w = .ok (.slice (cutp pa pcap 0) k pcap) w := fun w => run_cutp (pa := pa) (plen := plen) (pcap := pcap) (l := 0) (h := k) (by omega) (by omega) w
    have hs1 : ∀ w, (Instr.slice 29 (.slice pa plen pcap) (some (.int .i64 k1)) (some (.int .i64 k)) none).run Try.prog w = .ok (.slice (cutp pa pcap k1) k2 (pcap - k1)) w := fun w => by
      have := run_cutp (pa := pa) (plen := plen) (pcap := pcap) (l := k1) (h := k) (by omega) (by omega) w
      rw [show k - k1 = k2 from by omega] at this; exact this
    have hsl2 := hsl1
    have C5 : ∀ wx, Sl wx pa ps → Sl wx (cutp pa pcap k1) ((ps.drop k1).take k2) := fun wx h => cutp_sl h (by omega) (by omega)
    have L2 : ((ps.drop k1).take k2).length = k2 := by simp; omega
    have Cm : k2 = Nat.min k2 k2 := by simp
    have C6 : 0 + k2 ≤ (splice bs av (ps.take k1)).length := by rw [length_splice _ _ _ (by omega)]; omega
    have hav' : 0 < k → av = idx c f n := fun h0 => by rw [← hav]; exact mod_idx hf (by omega)
    have hfin := ringQ_write (bs := bs.take c) (X := ps.take k) (c := c) (f := f) (n := n) (k := k) (k1 := k1) (k2 := k2) (a := av) (by rw [List.length_take]; omega) hf (by simp; omega) (by omega) hk12 hav' ha1 ha2
    have e1 : (ps.take k).take k1 = ps.take k1 := by rw [List.take_take, Nat.min_eq_left (by omega)]
    have e2 : (ps.take k).drop k1 = (ps.drop k1).take k2 := by rw [List.drop_take, show k - k1 = k2 from by omega]
    rw [e1, e2] at hfin
    have hspl : (splice (splice bs av (ps.take k1)) 0 ((ps.drop k1).take k2)).take c = splice (splice (bs.take c) av (ps.take k1)) 0 ((ps.drop k1).take k2) := by
      rw [splice_take (by rw [length_splice _ _ _ (by omega)]; exact hln') (by omega), splice_take hln' (by omega)]
    rw [← hspl] at hfin
    have hlen2 : (splice (splice bs av (ps.take k1)) 0 ((ps.drop k1).take k2)).length = bs.length := by rw [length_splice _ _ _ (by rw [length_splice _ _ _ (by omega)]; omega), length_splice _ _ _ (by omega)]
    have HF := Lib.hid hfin
    have HL2 := Lib.hid hlen2
    have HL1 := Lib.hid L1
    have HLL := Lib.hid L2
    have HCn := Lib.hid Cn
    have HCm := Lib.hid Cm
    have HAV := Lib.hid hav
    have HAV' := Lib.hid hav'
    have H12 := Lib.hid hk12
    clear hkk hmin hspl hfin hlen2 L1 L2 Cn Cm hav hav' hk12 hpl' hln' e1 e2 h hb hsl hsl1 c0 c1 c2
    obtain ⟨X1, hX1⟩ : ∃ X1, X1 = ps.take k1 := ⟨_, rfl⟩
    obtain ⟨X2, hX2⟩ : ∃ X2, X2 = (ps.drop k1).take k2 := ⟨_, rfl⟩
    rw [← hX1] at C3 HF HL2 HL1 C6
    rw [← hX2] at HF HL2 HLL
    rw [← hX2] at C5
    clear hX1 hX2
    go_wp2_with fail
    refine wp_loop_rounds 3 ?_
    rw [rounds_succ]
    go_wp2_with (refine wpList_copy_fj rfl (.tmp 33) (.tmp 37) _ _ rfl 5 Try.underlying29 hsz (some ⟨D, o1, none⟩) (cutp pa pcap 0) k1 k1 k pcap (by exact rfl) (by exact rfl) D av bs J b1 X1 k1 HL1.out HCn.out (fun h => by rw [ho h]) C3 C4 ?_)
    intro w2 hr2 f2
    have b2 := hr2.out
    have h2 : RgB w2 R D c K f n := f2.keep h1 (by simp only [List.mem_singleton]; exact hRD)
    have hslw2 : Sl w2 pa ps := sl_keep hsl2 f2 (by intro h0 b o h; simp only [List.mem_singleton]; exact hpd h0 b o h)
    have C7 := C5 _ hslw2
    clear hr2 hs0 C3 b1 h1 hsl2
    go_wp2_with fail
    rw [rounds_succ]
    go_wp2_with (refine wpList_copy_fj rfl (.tmp 33) (.tmp 37) _ _ rfl 5 Try.underlying29 hsz (some ⟨D, 0, none⟩) (cutp pa pcap k1) k2 k2 k2 (pcap - k1) (by exact rfl) (by exact rfl) D 0 (splice bs av X1) J b2 X2 k2 HLL.out HCm.out (fun _ => rfl) C7 C6 ?_)
    intro w3 hr3 f3
    have h3 : RgB w3 R D c K f n := f3.keep h2 (by simp only [List.mem_singleton]; exact hRD)
    clear hs1 C5 C6 C7 hslw2 b2 h2
    obtain ⟨c0, c1, c2, g1, g2⟩ := h3.cells
    go_wp2_with fail
    rw [rounds_succ]
    go_wp2_with fail
    go_ret2
    refine ⟨_, ⟨rfl, ?_, ?_, ?_⟩, HL2.out, HF.out⟩
    · exact ((((f1.mono (by simp)).trans f2 (fun _ h => .inl h) (by simp)).trans f3 (fun _ h => .inl h) (by simp)).setCell (.inl (by simp)) _)
    · exact heap_setCell_eq (i := 2) h3
    · exact keepS hr3.out (by dsimp only; omega)
end Go.Proofs.Ytdoamelhclnphaa

namespace Go.Proofs.Ytdoamelhclnphaa
open Go.RowKit
set_option maxRecDepth 100000

def SkPost (R D c K f n k : Nat) (J : List Value) (bs' : List Int) (w : World) (e : Ending) (w' : World) : Prop :=
  e = .returned (.tuple #[.int .i64 k, .int .i64 0]) ∧ Fr [R, D] w w' ∧ RgB w' R D c K f n ∧ RowJ w' D bs' J

set_option maxHeartbeats 1000000 in
theorem skip_ok {w : World} {R D c K f n k : Nat} {bs : List Int} {J : List Value} {most : Int} (h : RgB w R D c K f n) (hb : RowJ w D bs J) (hlen : c ≤ bs.length) (hc : c ≤ 4096) (hK : c ≤ K) (hf : f < c) (hn : n ≤ c) (hRD : R ≠ D) (hm0 : 0 ≤ most) (hk : (k : Int) = min most n) :
    Calls Try.prog 123 #[.pointer (some ⟨R, 0, none⟩), .int .i64 most] w fun e w' =>
      ∃ bs', SkPost R D c K ((f + k) % c) (n - k) k J bs' w e w' ∧ bs'.length = bs.length ∧ ringQ (bs'.take c) ((f + k) % c) (n - k) = (ringQ (bs.take c) f n).drop k := by
  obtain ⟨c0, c1, c2, _, _⟩ := h.cells
  have hcz : ((c : Int) == 0) = false := by simp; omega
  have hz0 : ∀ w, (zeroValue 5).run Try.prog w = .ok (.int .u8 0) w := fun _ => by kernel_rfl
  have hi0 : ∀ (x0 x1 : Value) (w : World), (Instr.index 91 (.agg #[x0, x1]) (.int .i64 0)).run Try.prog w = .ok x0 w := fun _ _ _ => by kernel_rfl
  have hi1 : ∀ (x0 x1 : Value) (w : World), (Instr.index 91 (.agg #[x0, x1]) (.int .i64 1)).run Try.prog w = .ok x1 w := fun _ _ _ => by kernel_rfl
  have hkn : k ≤ n := by omega
  have HLN := Lib.hid hlen
  have hsp : (most ≤ (n : Int) ∧ most = (k : Int)) ∨ ((n : Int) < most ∧ n = k) := by omega
  clear hlen hk
  rcases hsp with ⟨hmin, rfl⟩ | ⟨hmin, rfl⟩
  all_goals
    go_enter Try.func123, Try.ntmps123
    go_wp2_with fail
    refine (zero_at h).mono ?_
    rintro e w' ⟨rfl, rfl⟩
    go_wp2_with fail
    refine (pieces_any h hc hK hf 0 _ _ (by omega) rfl).mono ?_
    rintro e w1 ⟨o1, k1, k2, rfl, hk12, ho, ha1, ha2, hk2c, f1⟩
    have h1 : RgB w1 R D c K f _ := f1.keep h (by simp)
    have b1 : RowJ w1 D bs J := f1.keep hb (by simp)
    have hav : (f + 0) % c = f := by rw [Nat.add_zero]; exact Nat.mod_eq_of_lt hf
    rw [hav] at ho ha1 ha2
    have hln' := HLN.out
    have C4 : f + k1 ≤ bs.length := by omega
    have C6 : 0 + k2 ≤ (splice bs f (List.replicate k1 0)).length := by rw [length_splice _ _ _ (by simp; omega)]; omega
    have hfin := ringQ_skip (bs := bs.take c) (c := c) (f := f) (by rw [List.length_take]; omega) hf hn hkn hk12 (fun _ => rfl) ha1 ha2
    have hspl : (splice (splice bs f (List.replicate k1 0)) 0 (List.replicate k2 0)).take c = splice (splice (bs.take c) f (List.replicate k1 0)) 0 (List.replicate k2 0) := by
      rw [splice_take (by rw [length_splice _ _ _ (by simp; omega)]; exact hln') (by simp; omega), splice_take hln' (by simp; omega)]
    rw [← hspl] at hfin
    have hlen2 : (splice (splice bs f (List.replicate k1 0)) 0 (List.replicate k2 0)).length = bs.length := by
      rw [length_splice _ _ _ (by rw [length_splice _ _ _ (by simp; omega)]; simp; omega), length_splice _ _ _ (by simp; omega)]
    have HF := Lib.hid hfin
    have HL2 := Lib.hid hlen2
    have HO := Lib.hid ho
    have H12 := Lib.hid hk12
    clear hspl hfin hlen2 hln' hav ho hk12 hmin h hb c0 c1 c2
    go_wp2_with fail
    refine wp_loop_rounds 3 ?_
    rw [rounds_succ]
    go_wp2_with (refine wpList_clear_fj rfl (.tmp 27) _ rfl 5 Try.underlying29 hz0 (some ⟨D, o1, none⟩) k1 k1 (by exact rfl) D f bs J b1 (fun h => by rw [HO.out h]) C4 ?_)
    intro w2 hr2 f2
    have b2 := hr2.out
    have h2 : RgB w2 R D c K f _ := f2.keep h1 (by simp only [List.mem_singleton]; exact hRD)
    clear hr2 b1 h1
    go_wp2_with fail
    rw [rounds_succ]
    go_wp2_with (refine wpList_clear_fj rfl (.tmp 27) _ rfl 5 Try.underlying29 hz0 (some ⟨D, 0, none⟩) k2 k2 (by exact rfl) D 0 _ J b2 (fun _ => rfl) C6 ?_)
    intro w3 hr3 f3
    have h3 : RgB w3 R D c K f _ := f3.keep h2 (by simp only [List.mem_singleton]; exact hRD)
    clear b2 h2
    obtain ⟨c0, c1, c2, g1, g2⟩ := h3.cells
    go_wp2_with fail
    rw [rounds_succ]
    go_wp2_with fail
    go_region
    go_wp2_with fail
    go_ret2
    refine ⟨_, ⟨rfl, ?_, ?_, ?_⟩, HL2.out, HF.out⟩
    · have F3 : Fr [R, D] w w3 := (((f1.mono (by simp)).trans f2 (fun _ h => .inl h) (by simp)).trans f3 (fun _ h => .inl h) (by simp))
      repeat first | (with_reducible exact F3) | (with_reducible refine Fr.drew ?_) | (with_reducible refine Fr.setCell ?_ (.inl (by simp)) _)
    · unfold RgB
      first
        | (rw [show ((n - k : Nat) : Int) = (n : Int) - k from by omega, show (((f + k) % c : Nat) : Int) = ((f : Int) + k) % c from by simp]; exact heap_setCell_eq (i := 2) (heap_setCell_eq (i := 1) h3))
        | (rw [Nat.sub_self, show (((f + n) % c : Nat) : Int) = ((f : Int) + n) % c from by simp]; exact heap_setCell_eq (i := 2) (heap_setCell_eq (i := 1) h3))
    · exact keepS (keepS hr3.out (by dsimp only; omega)) (by dsimp only; omega)
end Go.Proofs.Ytdoamelhclnphaa

namespace Go.Proofs.Ytdoamelhclnphaa
open Go.RowKit
set_option maxRecDepth 100000

theorem madeCells_bytes (m : Nat) : madeCells #[Value.int .u8 0] m = ((List.replicate m (0 : Int)).map (Value.int .u8)).toArray := by
  apply Array.ext
  · simp [madeCells]
  · intro i h1 h2
    simp [madeCells, Nat.mod_one]

/-- What Peek leaves: new memory. -/
def PkPost (out : List Int) (w : World) (e : Ending) (w' : World) : Prop :=
  ∃ N : Nat, e = .returned (.tuple #[.slice (some ⟨N, 0, none⟩) out.length out.length, .int .i64 0]) ∧ Fr [] w w' ∧ RowB w' N out ∧ w.heap.size ≤ N

theorem cutp_at {N m l : Nat} (h : m ≠ l) : cutp (some ⟨N, 0, none⟩) m l = some ⟨N, l, none⟩ := by
  unfold cutp
  rw [if_neg h]
  simp [Addr.add_lit]

theorem run_cutl {pa : Option Addr} {plen pcap l : Nat} (hl : l ≤ plen) (w : World) :
    (Instr.slice 29 (.slice pa plen pcap) (some (.int .i64 l)) none none).run Try.prog w = .ok (.slice (cutp pa pcap l) (plen - l) (pcap - l)) w := by
  have hs : ∀ w, (sizeOf (Try.prog.elem 29)).run Try.prog w = .ok 1 w := fun _ => by kernel_rfl
  have h1 := run_slice_l (P := Try.prog) (w := w) (t := 29) (a := pa) (len := plen) (cap := pcap) (by kernel_rfl) .i64 (l : Int) (by omega) (by omega)
  rw [h1, hs]
  simp [Result.andThen, sliced, cutp]

theorem splice_two {X1 X2 : List Int} {m k1 k2 : Nat} (h1 : X1.length = k1) (h2 : X2.length = k2) (h : k1 + k2 = m) : splice (splice (List.replicate m 0) 0 X1) k1 X2 = X1 ++ X2 := by
  unfold splice
  simp only [List.take_zero, List.nil_append, Nat.zero_add, h1, h2]
  rw [List.take_append_of_le_length (by omega), List.take_of_length_le (by omega), List.drop_eq_nil_of_le (by simp; omega), List.append_nil]

set_option maxHeartbeats 1000000 in
theorem peek_ok {w : World} {R D c K f n off m : Nat} {bs : List Int} {J : List Value} {most : Int} (h : RgB w R D c K f n) (hb : RowJ w D bs J) (hlen : c ≤ bs.length) (hc : c ≤ 4096) (hK : c ≤ K) (hf : f < c) (hn : n ≤ c) (hm0 : 0 ≤ most) (hoff : off < n) (hm : (m : Int) = min most (n - off)) :
    Calls Try.prog 122 #[.pointer (some ⟨R, 0, none⟩), .int .i64 off, .int .i64 most] w (PkPost (((ringQ (bs.take c) f n).drop off).take m) w) := by
  obtain ⟨c0, c1, c2, _, _⟩ := h.cells
  have hL := lt_of_heap h
  have hDl := lt_of_heap hb
  have hsz : (Try.prog.info? 5).map (·.size) = some 1 := by kernel_rfl
  have hi0 : ∀ (x0 x1 : Value) (w : World), (Instr.index 91 (.agg #[x0, x1]) (.int .i64 0)).run Try.prog w = .ok x0 w := fun _ _ _ => by kernel_rfl
  have hi1 : ∀ (x0 x1 : Value) (w : World), (Instr.index 91 (.agg #[x0, x1]) (.int .i64 1)).run Try.prog w = .ok x1 w := fun _ _ _ => by kernel_rfl
  have hmn : off + m ≤ n := by omega
  have hmk := run_make_row' (P := Try.prog) 29 5 (.int .u8 0) 1 Try.underlying29 (by kernel_rfl) rfl .i64 .i64 m (by omega) (by omega)
  have HLN := Lib.hid hlen
  have hsp : (most ≤ (n : Int) - off ∧ most = (m : Int)) ∨ ((n : Int) - off < most ∧ (n : Int) - off = (m : Int)) := by omega
  clear hlen hm
  rcases hsp with ⟨hmin, rfl⟩ | ⟨hmin, hkk⟩
  all_goals
    go_enter Try.func122, Try.ntmps122
    go_wp2_with fail
    refine (zero_at h).mono ?_
    rintro e w' ⟨rfl, rfl⟩
    go_wp2_with fail
    have hA : RgB (w.alloc (Obj.cells (madeCells #[Value.int IntKind.u8 0] m) 5)) R D c K f n := keepA h
    have hDB : RowJ (w.alloc (Obj.cells (madeCells #[Value.int IntKind.u8 0] m) 5)) D bs J := keepA hb
    have hNB : RowB (w.alloc (Obj.cells (madeCells #[Value.int IntKind.u8 0] m) 5)) w.heap.size (List.replicate m 0) := by
      unfold RowB; rw [← madeCells_bytes]; exact newA rfl
    have hFr : Fr [] w (w.alloc (Obj.cells (madeCells #[Value.int IntKind.u8 0] m) 5)) := (Fr.refl _ _).alloc _
    have hNs : w.heap.size ≤ w.heap.size := Nat.le_refl _
    have hDN : D ≠ w.heap.size := by omega
    generalize (w.alloc (Obj.cells (madeCells #[Value.int IntKind.u8 0] m) 5)) = wa at *
    generalize hNN : w.heap.size = N at hNB hNs hDN ⊢
    have hNs' : w.heap.size ≤ N := by omega
    clear hNN hNs
    refine (pieces_any hA hc hK hf off m _ (by omega) rfl).mono ?_
    rintro e w1 ⟨o1, k1, k2, rfl, hk12, ho, ha1, ha2, hk2c, f1⟩
    have h1 : RgB w1 R D c K f n := f1.keep hA (by simp)
    have b1 : RowJ w1 D bs J := f1.keep hDB (by simp)
    have r1 : RowB w1 N (List.replicate m 0) := f1.keep hNB (by simp)
    have hln' := HLN.out
    have hav' : 0 < m → (f + off) % c = idx c f off := fun h0 => mod_idx hf (by omega)
    generalize (f + off) % c = av at *
    have L1 : ((bs.drop av).take k1).length = k1 := by simp; omega
    have L2 : (bs.take k2).length = k2 := by simp; omega
    have S1 : Sl w1 (some ⟨D, o1, none⟩) ((bs.drop av).take k1) := fun h0 => ⟨D, o1, rfl, lt_of_heap b1, fun i hi => by
      rw [L1] at h0 hi
      rw [ho h0, getD_take _ _ _ hi, getD_drop]
      exact b1.cell (by omega)⟩
    have hfin := ringQ_peek (bs := bs.take c) (n := n) (m := m) (by rw [List.length_take]; omega) hf hn hmn hk12 hav' ha1 ha2
    have ec1 : ((bs.take c).drop av).take k1 = (bs.drop av).take k1 := by rw [List.drop_take, List.take_take, Nat.min_eq_left (by omega)]
    have ec2 : (bs.take c).take k2 = bs.take k2 := by rw [List.take_take, Nat.min_eq_left (by omega)]
    rw [ec1, ec2] at hfin
    clear ec1 ec2
    have C4 : 0 + k1 ≤ (List.replicate m (0 : Int)).length := by simp; omega
    have C6 : k1 + k2 ≤ (splice (List.replicate m 0) 0 ((bs.drop av).take k1)).length := by rw [length_splice _ _ _ (by rw [L1]; exact C4)]; simp; omega
    have hsp2 := splice_two (X1 := (bs.drop av).take k1) (X2 := bs.take k2) (m := m) L1 L2 hk12
    rw [hfin] at hsp2
    have hs0 : ∀ w, (Instr.slice 29 (.slice (some ⟨N, 0, none⟩) m m) (some (.int .i64 0)) none none).run Try.prog w = .ok (.slice (cutp (some ⟨N, 0, none⟩) m 0) m m) w := fun w => run_cutl (pa := some ⟨N, 0, none⟩) (plen := m) (pcap := m) (l := 0) (by omega) w
    have hs1 : ∀ w, (Instr.slice 29 (.slice (some ⟨N, 0, none⟩) m m) (some (.int .i64 k1)) none none).run Try.prog w = .ok (.slice (cutp (some ⟨N, 0, none⟩) m k1) k2 k2) w := fun w => by
      have := run_cutl (pa := some ⟨N, 0, none⟩) (plen := m) (pcap := m) (l := k1) (by omega) w
      rw [show m - k1 = k2 from by omega] at this; exact this
    have K0 : 0 < k1 → cutp (some ⟨N, 0, none⟩) m 0 = some ⟨N, 0, none⟩ := fun h0 => cutp_at (by omega)
    have K1 : 0 < k2 → cutp (some ⟨N, 0, none⟩) m k1 = some ⟨N, k1, none⟩ := fun h0 => cutp_at (by omega)
    have Cn : k1 = Nat.min k1 m := by simp [Nat.min_def]; omega
    have Cm : k2 = Nat.min k2 k2 := by simp
    have S2 : ∀ wx, RowJ wx D bs J → Sl wx (some ⟨D, 0, none⟩) (bs.take k2) := fun wx hx h0 => ⟨D, 0, rfl, lt_of_heap hx, fun i hi => by
      rw [L2] at h0 hi
      rw [Nat.zero_add, getD_take _ _ _ hi]
      exact hx.cell (by omega)⟩
    have hq : (((ringQ (bs.take c) f n).drop off).take m).length = m := by simp [ringQ_length]; omega
    have HQ := Lib.hid hq
    have HS := Lib.hid hsp2
    have HL1 := Lib.hid L1
    have HLL := Lib.hid L2
    have HCn := Lib.hid Cn
    have HCm := Lib.hid Cm
    have HK0 := Lib.hid K0
    have HK1 := Lib.hid K1
    have H12 := Lib.hid hk12
    have HS2 := Lib.hid S2
    clear hln' hav' L1 L2 hfin hsp2 Cn Cm K0 K1 hk12 S2 hq h hb hA hDB hNB c0 c1 c2 hmk
    generalize ((ringQ (bs.take c) f n).drop off).take m = out at *
    obtain ⟨X1, hX1⟩ : ∃ X1, X1 = (bs.drop av).take k1 := ⟨_, rfl⟩
    obtain ⟨X2, hX2⟩ : ∃ X2, X2 = bs.take k2 := ⟨_, rfl⟩
    rw [← hX1] at S1 HL1 C6 HS
    rw [← hX2] at HLL HS HS2
    clear hX1 hX2
    go_wp2_with fail
    refine wp_loop_rounds 3 ?_
    rw [rounds_succ]
    go_wp2_with (refine wpList_copy_fr rfl (.tmp 49) (.tmp 50) _ _ rfl 5 Try.underlying29 hsz (cutp (some ⟨N, 0, none⟩) m 0) (some ⟨D, o1, none⟩) m m k1 k1 (by exact rfl) (by exact rfl) N 0 (List.replicate m 0) r1 X1 k1 HL1.out HCn.out HK0.out S1 C4 ?_)
    intro w2 hr2 f2
    have r2 := hr2.out
    have h2 : RgB w2 R D c K f n := f2.keep h1 (by simp only [List.mem_singleton]; have := lt_of_heap h1; have := f1.size; omega)
    have b2 : RowJ w2 D bs J := f2.keep b1 (by simp only [List.mem_singleton]; exact hDN)
    have S2 := HS2.out _ b2
    clear hr2 hs0 S1 b1 h1 r1
    go_wp2_with fail
    rw [rounds_succ]
    go_wp2_with (refine wpList_copy_fr rfl (.tmp 49) (.tmp 50) _ _ rfl 5 Try.underlying29 hsz (cutp (some ⟨N, 0, none⟩) m k1) (some ⟨D, 0, none⟩) k2 k2 k2 k2 (by exact rfl) (by exact rfl) N k1 _ r2 X2 k2 HLL.out HCm.out HK1.out S2 C6 ?_)
    intro w3 hr3 f3
    clear hs1 C6 S2 b2 h2 r2
    go_wp2_with fail
    rw [rounds_succ]
    go_wp2_with fail
    go_ret2
    have hr4 := hr3.out
    rw [HS.out] at hr4
    refine ⟨N, by rw [HQ.out]; rfl, ?_, hr4, hNs'⟩
    exact ((hFr.then0 f1).then1 f2 (.inr hNs')).then1 f3 (.inr hNs')
end Go.Proofs.Ytdoamelhclnphaa

namespace Go.Proofs.Ytdoamelhclnphaa
open Go.RowKit
set_option maxRecDepth 100000

/-- A ring buffer at block R, its memory at block D, of capacity c, that holds q. -/
def Rg (w : World) (R D c : Nat) (q : List Int) : Prop :=
  ∃ (bs : List Int) (f n K : Nat) (J : List Value), RgB w R D c K f n ∧ RowJ w D bs J ∧ (c ≤ bs.length ∧ c ≤ K) ∧ 1 ≤ c ∧ c ≤ 4096 ∧ f < c ∧ n ≤ c ∧ R ≠ D ∧ ringQ (bs.take c) f n = q
theorem Rg.keep {w w' : World} {R D c : Nat} {q : List Int} (h : Rg w R D c q) {S : List Nat} (hf : Fr S w w') (h1 : R ∉ S) (h2 : D ∉ S) : Rg w' R D c q := by
  obtain ⟨bs, f, n, K, J, a, b, x⟩ := h
  exact ⟨bs, f, n, K, J, hf.keep a h1, hf.keep b h2, x⟩
theorem Rg.len_le {w : World} {R D c : Nat} {q : List Int} (h : Rg w R D c q) : q.length ≤ c ∧ c ≤ 4096 ∧ 1 ≤ c ∧ R ≠ D ∧ R < w.heap.size ∧ D < w.heap.size := by
  obtain ⟨bs, f, n, K, J, a, b, ⟨h1, hK⟩, h2, h3, h4, h5, h6, rfl⟩ := h
  rw [ringQ_length]
  exact ⟨h5, h3, h2, h6, lt_of_heap a, lt_of_heap b⟩

theorem rg_new (c : Nat) (w : World) (h1 : 1 ≤ c) (h2 : c ≤ 4096) :
    Calls Try.prog 94 #[.int .i64 c] w fun e w' => e = .returned (.tuple #[.pointer (some ⟨w.heap.size + 1, 0, none⟩), .int .i64 0]) ∧ Fr [] w w' ∧ Rg w' (w.heap.size + 1) w.heap.size c [] := by
  have hmk := run_make_row' (P := Try.prog) 29 5 (.int .u8 0) 1 Try.underlying29 (by kernel_rfl) rfl .i64 .i64 c (by omega) (by omega)
  go_enter Try.func94, Try.ntmps94
  go_wp2
  go_ret2
  refine ⟨rfl, ((Fr.refl _ _).alloc _).alloc _, List.replicate c 0, 0, 0, c, [], newA (by simp), ?_, ⟨by simp, Nat.le_refl _⟩, h1, h2, by omega, by omega, by omega, rfl⟩
  refine RowB.junk ?_
  unfold RowB
  rw [← madeCells_bytes]
  exact keepA (newA rfl)
theorem rg_new_bad (c : Int) (w : World) (h : c < 1 ∨ 4096 < c) :
    Calls Try.prog 94 #[.int .i64 c] w fun e w' => e = .returned (.tuple #[.pointer none, .int .i64 2]) ∧ w = w' := by
  by_cases h1 : c < 1
  · clear h
    go_enter Try.func94, Try.ntmps94
    go_wp2
    go_ret2
    exact ⟨rfl, rfl⟩
  · have h2 : 4096 < c := by omega
    have h3 : 1 ≤ c := by omega
    clear h h1
    go_enter Try.func94, Try.ntmps94
    go_wp2
    go_ret2
    exact ⟨rfl, rfl⟩

theorem rg_write {w : World} {R D c : Nat} {q ps : List Int} (h : Rg w R D c q) {pa : Option Addr} {plen pcap : Nat} (hpl : plen = ps.length) (hcap : plen ≤ pcap) (hsl : Sl w pa ps) (hpd : 0 < ps.length → ∀ b o, pa = some ⟨b, o, none⟩ → b ≠ D) (hmax : plen ≤ 65536) :
    Calls Try.prog 119 #[.pointer (some ⟨R, 0, none⟩), .slice pa plen pcap] w fun e w' =>
      e = .returned (.tuple #[.int .i64 (min plen (c - q.length) : Nat), .int .i64 0]) ∧ Fr [R, D] w w' ∧ Rg w' R D c (q ++ ps.take (min plen (c - q.length))) := by
  obtain ⟨bs, f, n, K, J, a, b, ⟨h1, hK⟩, h2, h3, h4, h5, h6, rfl⟩ := h
  rw [ringQ_length]
  exact (write_ok (k := min plen (c - n)) a b h1 h3 hK h4 h5 h6 hpl hcap hsl hpd hmax rfl).mono fun e w' ⟨bs', ⟨he, hf, r, d⟩, hl, hq⟩ => ⟨he, hf, bs', f, _, K, J, r, d, ⟨by omega, hK⟩, h2, h3, h4, by omega, h6, hq⟩
theorem rg_write_long {w : World} {R D c : Nat} {q : List Int} (h : Rg w R D c q) {pa : Option Addr} {plen pcap : Nat} (hmax : 65536 < plen) (hmx : plen ≤ maxLen) :
    Calls Try.prog 119 #[.pointer (some ⟨R, 0, none⟩), .slice pa plen pcap] w fun e w' => e = .returned (.tuple #[.int .i64 0, .int .i64 5]) ∧ w = w' := by
  obtain ⟨bs, f, n, K, J, a, _⟩ := h
  unfold maxLen at hmx
  have hm : (65536 : Int) < (plen : Int) := by omega
  go_enter Try.func119, Try.ntmps119
  go_wp2_with (go_at_call 121; refine (zero_at a).mono ?_; rintro e w' ⟨rfl, rfl⟩)
  go_ret2
  exact ⟨rfl, rfl⟩

/-- A result that reads as some bytes, in new memory. -/
def NewB (w : World) (out : List Int) (v : Value) (w' : World) : Prop :=
  (out = [] ∧ v = .slice none 0 0) ∨ ∃ N : Nat, v = .slice (some ⟨N, 0, none⟩) out.length out.length ∧ RowB w' N out ∧ w.heap.size ≤ N

theorem rg_peek {w : World} {R D c : Nat} {q : List Int} (h : Rg w R D c q) {off most : Int} (h0 : 0 ≤ off) (hm : 0 ≤ most) :
    Calls Try.prog 122 #[.pointer (some ⟨R, 0, none⟩), .int .i64 off, .int .i64 most] w fun e w' =>
      ∃ v, e = .returned (.tuple #[v, .int .i64 0]) ∧ Fr [] w w' ∧ NewB w ((q.drop off.toNat).take most.toNat) v w' := by
  obtain ⟨bs, f, n, K, J, a, b, ⟨h1, hK⟩, h2, h3, h4, h5, h6, rfl⟩ := h
  by_cases ho : off < n
  · obtain ⟨o, rfl⟩ := Int.eq_ofNat_of_zero_le h0
    have hmm : ∃ m : Nat, (m : Int) = min most ((n : Int) - o) := ⟨(min most ((n : Int) - o)).toNat, by omega⟩
    obtain ⟨m, hm'⟩ := hmm
    refine (peek_ok (m := m) a b h1 h3 hK h4 h5 hm (by omega) hm').mono ?_
    rintro e w' ⟨N, he, hf, hr, hN⟩
    obtain ⟨bq, hbq⟩ : ∃ bq, bs.take c = bq := ⟨_, rfl⟩
    rw [hbq] at he hr ⊢
    have e1 : ((ringQ bq f n).drop o).take m = ((ringQ bq f n).drop o).take most.toNat := by
      by_cases hc : most ≤ (n : Int) - o
      · rw [show m = most.toNat from by omega]
      · rw [List.take_of_length_le (by simp [ringQ_length]; omega), List.take_of_length_le (by simp [ringQ_length]; omega)]
    rw [e1] at he hr
    exact ⟨_, he, hf, .inr ⟨N, rfl, hr, hN⟩⟩
  · have hge : (n : Int) ≤ off := by omega
    have e1 : ((ringQ (bs.take c) f n).drop off.toNat).take most.toNat = [] := by
      rw [List.drop_eq_nil_of_le (by rw [ringQ_length]; omega)]; simp
    rw [e1]
    obtain ⟨c0, c1, c2, _, _⟩ := a.cells
    clear ho e1
    go_enter Try.func122, Try.ntmps122
    go_wp2_with (go_at_call 121; refine (zero_at a).mono ?_; rintro e w' ⟨rfl, rfl⟩)
    go_ret2
    exact ⟨_, rfl, Fr.refl _ _, .inl ⟨rfl, rfl⟩⟩
theorem rg_peek_bad {w : World} {R D c : Nat} {q : List Int} (h : Rg w R D c q) {off most : Int} (h0 : off < 0 ∨ most < 0) :
    Calls Try.prog 122 #[.pointer (some ⟨R, 0, none⟩), .int .i64 off, .int .i64 most] w fun e w' => e = .returned (.tuple #[.slice none 0 0, .int .i64 2]) ∧ w = w' := by
  obtain ⟨bs, f, n, K, J, a, _⟩ := h
  by_cases h1 : off < 0
  · clear h0
    go_enter Try.func122, Try.ntmps122
    go_wp2_with (go_at_call 121; refine (zero_at a).mono ?_; rintro e w' ⟨rfl, rfl⟩)
    go_ret2
    exact ⟨rfl, rfl⟩
  · have h2 : most < 0 := by omega
    have h3 : 0 ≤ off := by omega
    clear h0 h1
    go_enter Try.func122, Try.ntmps122
    go_wp2_with (go_at_call 121; refine (zero_at a).mono ?_; rintro e w' ⟨rfl, rfl⟩)
    go_ret2
    exact ⟨rfl, rfl⟩

theorem rg_skip {w : World} {R D c : Nat} {q : List Int} (h : Rg w R D c q) {most : Int} (hm : 0 ≤ most) :
    Calls Try.prog 123 #[.pointer (some ⟨R, 0, none⟩), .int .i64 most] w fun e w' =>
      e = .returned (.tuple #[.int .i64 (min most q.length), .int .i64 0]) ∧ Fr [R, D] w w' ∧ Rg w' R D c (q.drop most.toNat) := by
  obtain ⟨bs, f, n, K, J, a, b, ⟨h1, hK⟩, h2, h3, h4, h5, h6, rfl⟩ := h
  rw [ringQ_length]
  have hmm : ∃ m : Nat, (m : Int) = min most n := ⟨(min most (n : Int)).toNat, by omega⟩
  obtain ⟨m, hm'⟩ := hmm
  refine (skip_ok (k := m) a b h1 h3 hK h4 h5 h6 hm hm').mono ?_
  rintro e w' ⟨bs', ⟨he, hf, r, d⟩, hl, hq⟩
  have e1 : (ringQ (bs.take c) f n).drop m = (ringQ (bs.take c) f n).drop most.toNat := by
    by_cases hc : most ≤ n
    · rw [show m = most.toNat from by omega]
    · rw [List.drop_eq_nil_of_le (by rw [ringQ_length]; omega), List.drop_eq_nil_of_le (by rw [ringQ_length]; omega)]
  rw [e1] at hq
  rw [hm'] at he
  exact ⟨he, hf, bs', _, _, K, J, r, d, ⟨by omega, hK⟩, h2, h3, Nat.mod_lt _ (by omega), by omega, h6, hq⟩
theorem rg_skip_bad {w : World} {R D c : Nat} {q : List Int} (h : Rg w R D c q) {most : Int} (hm : most < 0) :
    Calls Try.prog 123 #[.pointer (some ⟨R, 0, none⟩), .int .i64 most] w fun e w' => e = .returned (.tuple #[.int .i64 0, .int .i64 2]) ∧ w = w' := by
  obtain ⟨bs, f, n, K, J, a, _⟩ := h
  go_enter Try.func123, Try.ntmps123
  go_wp2_with (go_at_call 121; refine (zero_at a).mono ?_; rintro e w' ⟨rfl, rfl⟩)
  go_ret2
  exact ⟨rfl, rfl⟩

theorem rg_len {w : World} {R D c : Nat} {q : List Int} (h : Rg w R D c q) : Calls Try.prog 101 #[.pointer (some ⟨R, 0, none⟩)] w fun e w' => e = .returned (.int .i64 q.length) ∧ w = w' := by
  obtain ⟨bs, f, n, K, J, a, b, ⟨h1, hK⟩, h2, h3, h4, h5, h6, rfl⟩ := h
  rw [ringQ_length]; exact len_at a
theorem rg_cap {w : World} {R D c : Nat} {q : List Int} (h : Rg w R D c q) : Calls Try.prog 125 #[.pointer (some ⟨R, 0, none⟩)] w fun e w' => e = .returned (.int .i64 c) ∧ w = w' := by
  obtain ⟨bs, f, n, K, J, a, _⟩ := h
  exact cap_at a
theorem rg_free {w : World} {R D c : Nat} {q : List Int} (h : Rg w R D c q) : Calls Try.prog 117 #[.pointer (some ⟨R, 0, none⟩)] w fun e w' => e = .returned (.int .i64 ((c : Int) - q.length)) ∧ w = w' := by
  obtain ⟨bs, f, n, K, J, a, b, ⟨h1, hK⟩, h2, h3, h4, h5, h6, rfl⟩ := h
  rw [ringQ_length]; exact free_at a h3 h5

/-- Read: at most some bytes are taken out. -/
theorem rg_read {w : World} {R D c : Nat} {q : List Int} (h : Rg w R D c q) {most : Int} (hm : 0 ≤ most) :
    Calls Try.prog 102 #[.pointer (some ⟨R, 0, none⟩), .int .i64 most] w fun e w' =>
      ∃ v, e = .returned (.tuple #[v, .int .i64 0]) ∧ Fr [R, D] w w' ∧ NewB w (q.take most.toNat) v w' ∧ Rg w' R D c (q.drop most.toNat) := by
  obtain ⟨hq, hc, _, _, hR, hD⟩ := h.len_le
  have HP := Lib.hid (rg_peek h (off := 0) (Int.le_refl 0) hm)
  go_enter Try.func102, Try.ntmps102
  go_wp2_with fail
  refine HP.out.mono ?_
  rintro e w1 ⟨v, rfl, f1, hv⟩
  have h1 : Rg w1 R D c q := h.keep f1 (by simp) (by simp)
  clear HP h
  rw [show (0 : Int).toNat = 0 from rfl, List.drop_zero] at hv
  rcases hv with ⟨hnil, rfl⟩ | ⟨N, rfl, hr, hN⟩
  · have hdrop : q.drop (0 : Int).toNat = q.drop most.toNat := by
      rw [show (0 : Int).toNat = 0 from rfl, List.drop_zero]
      rcases q with _ | ⟨x, q⟩
      · simp
      · rcases hmn : most.toNat with _ | m
        · rfl
        · rw [hmn] at hnil; simp at hnil
    have HN := Lib.hid hnil
    have HD := Lib.hid hdrop
    clear hnil hdrop
    go_wp2_with fail
    refine (rg_skip h1 (most := 0) (Int.le_refl 0)).mono ?_
    rintro e w2 ⟨rfl, f2, h2⟩
    go_wp2_with fail
    go_ret2
    rw [HD.out] at h2
    exact ⟨_, rfl, f1.trans f2 (by simp) (fun _ h => .inl h), .inl ⟨HN.out, rfl⟩, h2⟩
  · have hlen : ((q.take most.toNat).length : Int) = (min most.toNat q.length : Nat) := by simp
    have hdrop : q.drop (((q.take most.toNat).length : Nat) : Int).toNat = q.drop most.toNat := by
      rw [Int.toNat_natCast, List.length_take]
      by_cases hle : most.toNat ≤ q.length
      · rw [Nat.min_eq_left hle]
      · rw [List.drop_eq_nil_of_le (by omega), List.drop_eq_nil_of_le (by omega)]
    have HD := Lib.hid hdrop
    clear hlen hdrop
    generalize hout : q.take most.toNat = out at *
    have HO := Lib.hid hout
    clear hout
    go_wp2_with fail
    refine (rg_skip h1 (most := (out.length : Nat)) (by omega)).mono ?_
    rintro e w2 ⟨rfl, f2, h2⟩
    go_wp2_with fail
    go_ret2
    rw [HD.out] at h2
    have hout := HO.out
    subst hout
    exact ⟨_, rfl, f1.trans f2 (by simp) (fun _ h => .inl h), .inr ⟨N, rfl, f2.keep hr (by simp; omega), hN⟩, h2⟩
theorem rg_read_bad {w : World} {R D c : Nat} {q : List Int} (h : Rg w R D c q) {most : Int} (hm : most < 0) :
    Calls Try.prog 102 #[.pointer (some ⟨R, 0, none⟩), .int .i64 most] w fun e w' => e = .returned (.tuple #[.slice none 0 0, .int .i64 2]) ∧ w = w' := by
  go_enter Try.func102, Try.ntmps102
  go_wp2_with (go_at_call 122; refine (rg_peek_bad h (.inr hm)).mono ?_; rintro e w' ⟨rfl, rfl⟩)
  go_ret2
  exact ⟨rfl, rfl⟩
end Go.Proofs.Ytdoamelhclnphaa
