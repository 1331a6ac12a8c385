/-
  The calls of law 21: an argument that is a list of them, and few.
-/
import Derived.Test.YtodpkdbcdbdjfaaKnown21
import Derived.Test.YtodpkdbcdbdjfaaOpenF
import Derived.SliceStrings
namespace Go.Proofs.Ytodpkdbcdbdjfaa
open Go.ChangeShapes Go.WideShapes Go.RowKit
set_option maxRecDepth 100000

structure A21 where
  what : Int
  data : List UInt8
  n : Int
  er : Int
/-- A slice of calls. -/
structure Acts21 (w : World) (M : Nat) (a : Option Addr) (len cap : Nat) (A : List A21) : Prop where
  len_eq : len = A.length
  cap_le : len ≤ maxLen
  at_ : ∀ i (hi : i < A.length), ∃ b o pa pl pc, a = some (⟨b, o, none⟩ : Addr) ∧ b < M ∧ b < w.heap.size ∧ w.cell? ⟨b, o + i * 4, none⟩ = some (.int .i64 A[i].what) ∧ w.cell? ⟨b, o + i * 4 + 1, none⟩ = some (.slice pa pl pc) ∧ w.cell? ⟨b, o + i * 4 + 2, none⟩ = some (.int .i64 A[i].n) ∧ w.cell? ⟨b, o + i * 4 + 3, none⟩ = some (.int .i64 A[i].er) ∧ Arg w M pa pl pc A[i].data ∧ (-9223372036854775808 ≤ A[i].what ∧ A[i].what ≤ 9223372036854775807) ∧ (-9223372036854775808 ≤ A[i].n ∧ A[i].n ≤ 9223372036854775807) ∧ (-9223372036854775808 ≤ A[i].er ∧ A[i].er ≤ 9223372036854775807)
theorem Acts21.keep {w w' : World} {M : Nat} {a : Option Addr} {len cap : Nat} {A : List A21} (h : Acts21 w M a len cap A) {S : List Nat} (hf : Fr S w w') (hM : M ≤ w.heap.size) (hS : ∀ x ∈ S, M ≤ x) : Acts21 w' M a len cap A :=
  ⟨h.len_eq, h.cap_le, fun i hi => by
    obtain ⟨b, o, pa, pl, pc, e, h1, h2, c0, c1, c2, c3, hs, x⟩ := h.at_ i hi
    have hn : b ∉ S := fun hm => by have := hS b hm; omega
    have hk : ∀ k, w'.cell? ⟨b, k, none⟩ = w.cell? ⟨b, k, none⟩ := fun k => World.cell?_of_block (w := w) (hf.block b h2 hn)
    exact ⟨b, o, pa, pl, pc, e, h1, Nat.lt_of_lt_of_le h2 hf.size, (hk _).trans c0, (hk _).trans c1, (hk _).trans c2, (hk _).trans c3, hs.keep hf hM hS, x⟩⟩

theorem cell_lt21 {w : World} {b o : Nat} {v : Value} (h : w.cell? ⟨b, o, none⟩ = some v) : b < w.heap.size := World.block_lt_of_cell? _ _ h
theorem acts21_of {H : Type} {enc : TypeId × Value → H} {w : World} {base : Nat} {fuel : Nat} {a : Option Addr} {len cap : Nat} {x : DataW H × List MemPlace}
    (h : DataW.trod enc Try.prog w base (fun _ => true) true fuel 38 [.slice a len cap] = some x) : ∃ A, Acts21 w w.heap.size a len cap A := by
  rcases open_slice_fields Try.underlying38 Try.underlying41 (by kernel_rfl) (by kernel_rfl) h with ⟨hcs, _⟩ | ⟨a', len', cap', m, hcs, hl, hm, hmm, hi⟩
  · simp at hcs
    obtain ⟨rfl, rfl, rfl⟩ := hcs
    exact ⟨[], rfl, by unfold maxLen; omega, fun i hi => absurd hi (Nat.not_lt_zero i)⟩
  · simp only [List.cons.injEq, Value.slice.injEq, and_true] at hcs
    obtain ⟨rfl, rfl, rfl⟩ := hcs
    simp only [if_true] at hmm
    subst hmm
    have key : ∀ i, ∃ v : A21, i < len → ∃ b o pa pl pc, some a' = some (⟨b, o, none⟩ : Addr) ∧ b < w.heap.size ∧ b < w.heap.size ∧ w.cell? ⟨b, o + i * 4, none⟩ = some (.int .i64 v.what) ∧ w.cell? ⟨b, o + i * 4 + 1, none⟩ = some (.slice pa pl pc) ∧ w.cell? ⟨b, o + i * 4 + 2, none⟩ = some (.int .i64 v.n) ∧ w.cell? ⟨b, o + i * 4 + 3, none⟩ = some (.int .i64 v.er) ∧ Arg w w.heap.size pa pl pc v.data ∧ (-9223372036854775808 ≤ v.what ∧ v.what ≤ 9223372036854775807) ∧ (-9223372036854775808 ≤ v.n ∧ v.n ≤ 9223372036854775807) ∧ (-9223372036854775808 ≤ v.er ∧ v.er ≤ 9223372036854775807) := by
      intro i
      by_cases hlt : i < len
      · obtain ⟨v0, y0, n0, hc0, ht0⟩ := hi i (by omega) 0 _ rfl
        obtain ⟨v1, y1, n1, hc1, ht1⟩ := hi i (by omega) 1 _ rfl
        obtain ⟨v2, y2, n2, hc2, ht2⟩ := hi i (by omega) 2 _ rfl
        obtain ⟨v3, y3, n3, hc3, ht3⟩ := hi i (by omega) 3 _ rfl
        obtain ⟨z0, e0, rfl, k0⟩ := DataW.trod_int Try.underlying3 ht0
        obtain ⟨z2, e2, rfl, k2⟩ := DataW.trod_int Try.underlying3 ht2
        obtain ⟨z3, e3, rfl, k3⟩ := DataW.trod_int Try.underlying23 ht3
        have hsl : ∃ pa pl pc, v1 = .slice pa pl pc := by
          rcases open_ints Try.underlying22 Try.underlying5 (by kernel_rfl) ht1 with ⟨hcs, _⟩ | ⟨a2, l2, c2, zs, hcs, _⟩
          · simp at hcs; exact ⟨_, _, _, hcs⟩
          · simp at hcs; exact ⟨_, _, _, hcs⟩
        obtain ⟨pa, pl, pc, rfl⟩ := hsl
        obtain ⟨ss, hss⟩ := bytes_of ht1
        simp only [List.cons.injEq, and_true] at e0 e2 e3
        subst e0 e2 e3
        obtain ⟨b, o, s⟩ := a'
        obtain ⟨_, _, _, hz, _⟩ := hi 0 (by omega) 0 _ rfl
        have hs : s = none := by simpa [Addr.add] using World.cell?_spot hz
        subst hs
        rw [addr_add] at hc0 hc1 hc2 hc3
        have hb : b < w.heap.size := cell_lt21 hc0
        rw [← Nat.add_assoc] at hc1 hc2 hc3
        exact ⟨⟨z0, ss, z2, z3⟩, fun _ => ⟨b, o, pa, pl, pc, rfl, hb, hb, hc0, hc1, hc2, hc3, hss, wf_bd k0, wf_bd k2, wf_bd k3⟩⟩
      · exact ⟨⟨0, [], 0, 0⟩, fun h => absurd h hlt⟩
    obtain ⟨f, hf⟩ := Classical.axiomOfChoice key
    refine ⟨(List.range len).map f, by simp, by omega, fun i hi' => ?_⟩
    have hi2 : i < len := by simpa using hi'
    have := hf i hi2
    simpa using this

/-- Few calls with few bytes. -/
def fewB21 (A : List A21) : Bool := decide (A.length ≤ 30) && (A.take 31).all (fun x => decide (x.data.length ≤ 5000))
theorem fewB21_iff {A : List A21} (h : fewB21 A = true) : A.length ≤ 30 ∧ ∀ x ∈ A, x.data.length ≤ 5000 := by
  unfold fewB21 at h
  rw [Bool.and_eq_true] at h
  have h1 : A.length ≤ 30 := by simpa using h.1
  refine ⟨h1, ?_⟩
  have := h.2
  rw [List.take_of_length_le (by omega)] at this
  simpa using this
set_option maxHeartbeats 1000000 in
theorem few21 {w : World} {M : Nat} {a : Option Addr} {len cap : Nat} {A : List A21} (h : Acts21 w M a len cap A) :
    Calls Try.prog 21 #[.slice a len cap] w fun e w' => e = .returned (.bool (fewB21 A)) ∧ w = w' := by
  have hle := h.len_eq
  subst hle
  have hmx : (A.length : Int) ≤ 9223372036854775807 := by have := h.cap_le; unfold maxLen at this; omega
  go_enter Try.func21, Try.ntmps21
  go_wp2_with fail
  go_loop [3] (fun i => ∃ k : Nat, k ≤ A.length ∧ k ≤ 31 ∧ i = .int .i64 k ∧ Hid ((A.take k).all (fun x => decide (x.data.length ≤ 5000)) = true)) (fun i => A.length - (intOf i).toNat)
  case atStart => exact ⟨0, by omega, by omega, rfl, Lib.hid rfl⟩
  case round =>
    obtain ⟨k, hk, hkc, rfl, HO⟩ := hrel
    by_cases hlt : (k : Int) < A.length
    · by_cases hct : (k : Int) < 31
      · have hkA : k < A.length := by omega
        obtain ⟨b, o, pa, pl, pc, rfl, hbM, hb, c0, c1, c2, c3, hss, _⟩ := h.at_ k hkA
        have hbad : ¬ A[k].data.length ≤ 5000 → fewB21 A = false := fun e => by
          unfold fewB21
          have : (A.take 31).all (fun x => decide (x.data.length ≤ 5000)) = false := by
            rw [List.all_eq_false]
            exact ⟨A[k], List.mem_take_iff_getElem.2 ⟨k, by omega, rfl⟩, by simpa using e⟩
          rw [this, Bool.and_false]
        have hgood : A[k].data.length ≤ 5000 → (A.take (k + 1)).all (fun x => decide (x.data.length ≤ 5000)) = true := fun e => by
          rw [List.take_succ_eq_append_getElem hkA, List.all_append, HO.out]
          simpa using e
        have HB := Lib.hid hbad
        have HG := Lib.hid hgood
        have hpl := hss.len_eq
        have hple := hss.cap_le
        have hple2 := hss.le
        unfold maxLen at hple
        have hpi : (pl : Int) ≤ 9223372036854775807 := by omega
        have hidx : 0 ≤ (k : Int) := by omega
        clear hbad hgood c0 c2 c3
        by_cases h3 : (5000 : Int) < pl
        · have HF := Lib.hid (HB.out (by omega))
          clear hpl
          go_wp2_with fail
          go_ret
          exact ⟨by rw [HF.out]; rfl, rfl⟩
        · have HN := Lib.hid (HG.out (by omega))
          clear hpl
          go_wp2_with fail
          go_round
          case rel => exact ⟨k + 1, by omega, by omega, by go_num, HN⟩
          case measure => simp [intOf]; omega
      · have hgt : ¬ A.length ≤ 30 := by omega
        have HF := Lib.hid (show fewB21 A = false from by unfold fewB21; rw [decide_eq_false hgt, Bool.false_and])
        have hd : decide ((A.length : Int) ≤ 30) = false := by simp; omega
        have hgi : (30 : Int) < A.length := by omega
        clear hgt
        go_wp2_with fail
        go_ret
        exact ⟨by rw [HF.out]; rfl, rfl⟩
    · have hfin : fewB21 A = decide (A.length ≤ 30) := by
        unfold fewB21
        have := HO.out
        rw [List.take_of_length_le (by omega)] at this
        rw [List.take_of_length_le (by omega), this, Bool.and_true]
      have HF := Lib.hid hfin
      clear hfin
      by_cases h30 : (A.length : Int) ≤ 30
      · have hd : decide ((A.length : Int) ≤ 30) = true := by simpa using h30
        have HD := Lib.hid (show decide (A.length ≤ 30) = true from by simp; omega)
        go_wp2_with fail
        go_ret
        exact ⟨by rw [HF.out, HD.out]; rfl, rfl⟩
      · have hd : decide ((A.length : Int) ≤ 30) = false := by simpa using h30
        have HD := Lib.hid (show decide (A.length ≤ 30) = false from by simp; omega)
        go_wp2_with fail
        go_ret
        exact ⟨by rw [HF.out, HD.out]; rfl, rfl⟩
end Go.Proofs.Ytodpkdbcdbdjfaa
