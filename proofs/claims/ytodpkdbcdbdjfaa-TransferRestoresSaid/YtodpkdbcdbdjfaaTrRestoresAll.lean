/-
  Law 21: TransferRestores: its arms joined.
-/
import Derived.Test.YtodpkdbcdbdjfaaTransferRestores
import Derived.Test.YtodpkdbcdbdjfaaTrRestoresBad
import Derived.WideShapes
import Derived.ChangeArms
namespace Go.Proofs.Ytodpkdbcdbdjfaa
open Go.ChangeShapes Go.WideShapes Go.RowKit
set_option maxRecDepth 100000

set_option maxHeartbeats 4000000 in
theorem transferRestores_few {sg lm wr en : Int} {ba : Option Addr} {bc : Nat} {s : List UInt8} {a : Option Addr} {len cap : Nat} {A : List A21} (w : World) (hA : Acts21 w w.heap.size a len cap A) (hs : fewB21 A = false) :
    Calls Try.prog 7 #[.agg #[.int .i64 sg, .int .i64 lm, .int .i64 wr, .slice ba s.length bc, .int .i64 en], .slice a len cap] w fun e w' => e = .returned (.bool true) ∧ Fr [] w w' := by
  have hle := hA.len_eq
  subst hle
  obtain ⟨w1, hw1, f1, q1⟩ : ∃ W, w.alloc (.cells #[.int .i64 sg, .int .i64 lm, .int .i64 wr, .slice ba s.length bc, .int .i64 en] 61) = W ∧ Fr [] w W ∧ W.heap[w.heap.size]? = some (.cells #[.int .i64 sg, .int .i64 lm, .int .i64 wr, .slice ba s.length bc, .int .i64 en] 61 (0, 0)) := ⟨_, rfl, (Fr.refl _ _).alloc _, newA rfl⟩
  have a1 := hA.keep f1 (Nat.le_refl _) (by simp)
  have HFW := Lib.hid (hs ▸ few21 a1)
  have HF1 := Lib.hid f1
  have k3 : w1.cell? ⟨w.heap.size, 3, none⟩ = some (.slice ba s.length bc) := cell_of q1
  clear a1 hs hA f1 q1 k3
  go_enter Try.func7, Try.ntmps7
  go_wp2_with fail
  refine HFW.out.mono ?_
  rintro e w' ⟨rfl, rfl⟩
  go_wp2_with fail
  refine (known21 _).mono ?_
  rintro e w' ⟨rfl, f⟩
  go_wp2_with fail
  go_ret
  exact ⟨rfl, HF1.out.then0 f⟩

set_option maxHeartbeats 4000000 in
theorem transferRestores_long {sg lm wr en : Int} {ba : Option Addr} {bc : Nat} {s : List UInt8} {a : Option Addr} {len cap : Nat} {A : List A21} (w : World) (hA : Acts21 w w.heap.size a len cap A) (hs : fewB21 A = true) (h5 : (5000 : Int) < s.length) :
    Calls Try.prog 7 #[.agg #[.int .i64 sg, .int .i64 lm, .int .i64 wr, .slice ba s.length bc, .int .i64 en], .slice a len cap] w fun e w' => e = .returned (.bool true) ∧ Fr [] w w' := by
  have hle := hA.len_eq
  subst hle
  obtain ⟨w1, hw1, f1, q1⟩ : ∃ W, w.alloc (.cells #[.int .i64 sg, .int .i64 lm, .int .i64 wr, .slice ba s.length bc, .int .i64 en] 61) = W ∧ Fr [] w W ∧ W.heap[w.heap.size]? = some (.cells #[.int .i64 sg, .int .i64 lm, .int .i64 wr, .slice ba s.length bc, .int .i64 en] 61 (0, 0)) := ⟨_, rfl, (Fr.refl _ _).alloc _, newA rfl⟩
  have a1 := hA.keep f1 (Nat.le_refl _) (by simp)
  have HFW := Lib.hid (hs ▸ few21 a1)
  have HF1 := Lib.hid f1
  have k3 : w1.cell? ⟨w.heap.size, 3, none⟩ = some (.slice ba s.length bc) := cell_of q1
  clear a1 hs hA f1 q1
  go_enter Try.func7, Try.ntmps7
  go_wp2_with fail
  refine HFW.out.mono ?_
  rintro e w' ⟨rfl, rfl⟩
  go_wp2_with fail
  refine (known21 _).mono ?_
  rintro e w' ⟨rfl, f⟩
  go_wp2_with fail
  go_ret
  exact ⟨rfl, HF1.out.then0 f⟩

theorem transferRestores_walk {sg lm wr en : Int} {ba : Option Addr} {bc : Nat} {s : List UInt8} {a : Option Addr} {len cap : Nat} (w : World) (hb : Sl w ba (bi s)) (hw : -9223372036854775808 ≤ wr ∧ wr ≤ 9223372036854775807) (h : ∃ A, Acts21 w w.heap.size a len cap A) :
    Calls Try.prog 7 #[.agg #[.int .i64 sg, .int .i64 lm, .int .i64 wr, .slice ba s.length bc, .int .i64 en], .slice a len cap] w fun e w' => e = .returned (.bool true) ∧ Fr [] w w' := by
  obtain ⟨A, hA⟩ := h
  by_cases hs : fewB21 A = true
  · by_cases hm : s.length ≤ 5000
    · by_cases hk : okR sg lm wr s.length en = true
      · exact transferRestores_ok w hk hb hm hA hs
      · exact transferRestores_bad w hw (by simpa using hk) hb hm hA hs
    · exact transferRestores_long w hA hs (by omega)
  · exact transferRestores_few w hA (by simpa using hs)

theorem array5 {α : Type} {cs : Array α} (h : cs.size = 5) : ∃ c0 c1 c2 c3 c4, cs = #[c0, c1, c2, c3, c4] := by
  obtain ⟨l⟩ := cs
  match l, h with
  | [c0, c1, c2, c3, c4], _ => exact ⟨c0, c1, c2, c3, c4, rfl⟩
theorem part21_of {H : Type} {enc : TypeId × Value → H} {w : World} {base b0 : Nat} {r : Reach} {v : Value} {d : DataW H} {p : List MemPlace}
    (hv : Value.okWide Try.prog w r b0 61 v) (h : DataW.Trod enc Try.prog w base (fun _ => true) true 61 v d p) :
    ∃ (sg lm wr en : Int) (ba : Option Addr) (bc : Nat) (s : List UInt8), v = .agg #[.int .i64 sg, .int .i64 lm, .int .i64 wr, .slice ba s.length bc, .int .i64 en] ∧ Sl w ba (bi s) ∧ (-9223372036854775808 ≤ wr ∧ wr ≤ 9223372036854775807) := by
  obtain ⟨cs, rfl, hsz⟩ := okWide_struct Try.underlying61 hv
  obtain ⟨c0, c1, c2, c3, c4, rfl⟩ := array5 (hsz.trans (by kernel_rfl))
  obtain ⟨fuel, hf⟩ := h
  obtain ⟨xs, n, _, _, hl, hlen, hf'⟩ := DataW.trod_struct Try.underlying61 hf
  have key : ∀ i, i < 5 → ∃ y, xs[i]? = some y := fun i hi => ⟨_, List.getElem?_eq_getElem (by rw [hlen]; exact hi)⟩
  have hi1 : Try.prog.cellsOf 3 = 1 := by kernel_rfl
  have hi2 : Try.prog.cellsOf 22 = 1 := by kernel_rfl
  have hi3 : Try.prog.cellsOf 23 = 1 := by kernel_rfl
  obtain ⟨y0, e0⟩ := key 0 (by omega)
  obtain ⟨y1, e1⟩ := key 1 (by omega)
  obtain ⟨y2, e2⟩ := key 2 (by omega)
  obtain ⟨y3, e3⟩ := key 3 (by omega)
  obtain ⟨y4, e4⟩ := key 4 (by omega)
  have g0 : DataW.trod enc Try.prog w base (fun _ => true) true n 3 [c0] = some y0 := by rw [← e0]; simpa [Value.cells, hi1] using hf' 0 _ rfl
  have g1 : DataW.trod enc Try.prog w base (fun _ => true) true n 3 [c1] = some y1 := by rw [← e1]; simpa [Value.cells, hi1] using hf' 1 _ rfl
  have g2 : DataW.trod enc Try.prog w base (fun _ => true) true n 3 [c2] = some y2 := by rw [← e2]; simpa [Value.cells, hi1] using hf' 2 _ rfl
  have g3 : DataW.trod enc Try.prog w base (fun _ => true) true n 22 [c3] = some y3 := by rw [← e3]; simpa [Value.cells, hi2] using hf' 3 _ rfl
  have g4 : DataW.trod enc Try.prog w base (fun _ => true) true n 23 [c4] = some y4 := by rw [← e4]; simpa [Value.cells, hi3] using hf' 4 _ rfl
  obtain ⟨z0, q0, _, _⟩ := DataW.trod_int Try.underlying3 g0
  obtain ⟨z1, q1, _, _⟩ := DataW.trod_int Try.underlying3 g1
  obtain ⟨z2, q2, _, k2⟩ := DataW.trod_int Try.underlying3 g2
  obtain ⟨z4, q4, _, _⟩ := DataW.trod_int Try.underlying23 g4
  have hsl : ∃ pa pl pc, c3 = .slice pa pl pc := by
    rcases open_ints Try.underlying22 Try.underlying5 (by kernel_rfl) g3 with ⟨hcs, _⟩ | ⟨a2, l2, c2, zs, hcs, _⟩
    · simp at hcs; exact ⟨_, _, _, hcs⟩
    · simp at hcs; exact ⟨_, _, _, hcs⟩
  obtain ⟨pa, pl, pc, rfl⟩ := hsl
  obtain ⟨ss, hss⟩ := bytes_of g3
  simp only [List.cons.injEq, and_true] at q0 q1 q2 q4
  subst q0 q1 q2 q4
  obtain rfl := hss.len_eq
  exact ⟨z0, z1, z2, z4, pa, pc, ss, rfl, hss.sl, wf_bd k2⟩
end Go.Proofs.Ytodpkdbcdbdjfaa
