/-
  Law 41: begin; the argument that is a setting; ShaperStarts.
-/
import Derived.Test.YtdndabklcenndaaShLaw
import Derived.ProofKit
import Derived.OpenShut
import Derived.ChangeOld
import Derived.Deep.Slices
import Derived.Deep.Fields
namespace Go.Proofs.Ytdndabklcenndaa
open Go.ChangeShapes Go.WideShapes Go.Deep Go.RowKit
set_option maxRecDepth 100000

theorem Fr.setRow41 {S : List Nat} {a w : World} (h : Fr S a w) {g : Nat} (hg : g ∈ S ∨ a.heap.size ≤ g) (cs : Array Value) : Fr S a (w.setRow g cs) :=
  h.trans (T := [g]) ⟨rfl, rfl, rfl, by simp [World.setRow], fun k _ hn => setRow_other _ _ _ _ (by simpa using hn)⟩ (fun _ h => .inl h) (fun x hx => by simp at hx; subst hx; exact hg)
theorem begin41 {r p u lat lim now : Int} (w : World) (h : Val r p u now) :
    Calls Try.prog 28 #[.agg #[.int .i64 r, .int .i64 p, .int .i64 u, .int .i64 lat, .int .i64 lim, .int .u64 now]] w fun e w' =>
      ∃ mb, e = .returned (.agg #[.pointer (some ⟨mb, 0, none⟩), .int .i64 r, .int .i64 p, .int .i64 u, .int .i64 lat, .int .i64 lim, .int .u64 now, .slice none 0 0, .bool false, .int .u64 0, .int .u64 now]) ∧
        Fr [] w w' ∧ BkAt w' mb r p u (u * p) now ∧ w.heap.size ≤ mb ∧ mb < w'.heap.size := by
  have HB := Lib.hid fun w => new_ok w h
  clear h
  obtain ⟨wb, hwb, fb, qb⟩ : ∃ W, w.alloc (.cells #[.int .i64 r, .int .i64 p, .int .i64 u, .int .i64 lat, .int .i64 lim, .int .u64 now] 56) = W ∧ Fr [] w W ∧ W.heap[w.heap.size]? = some (.cells #[.int .i64 r, .int .i64 p, .int .i64 u, .int .i64 lat, .int .i64 lim, .int .u64 now] 56 (0, 0)) := ⟨_, rfl, (Fr.refl _ _).alloc _, newA rfl⟩
  have hzb := lt_of_heap qb
  obtain ⟨B, hB⟩ : ∃ B, wb.heap.size = B := ⟨_, rfl⟩
  obtain ⟨wz, hwz, fz, qz⟩ : ∃ W, wb.alloc (.cells #[.pointer none, .int .i64 0, .int .i64 0, .int .i64 0, .int .i64 0, .int .i64 0, .int .u64 0, .slice none 0 0, .bool false, .int .u64 0, .int .u64 0] 64) = W ∧ Fr [] wb W ∧ W.heap[B]? = some (.cells #[.pointer none, .int .i64 0, .int .i64 0, .int .i64 0, .int .i64 0, .int .i64 0, .int .u64 0, .slice none 0 0, .bool false, .int .u64 0, .int .u64 0] 64 (0, 0)) := ⟨_, rfl, (Fr.refl _ _).alloc _, newA hB.symm⟩
  have qz0 := fz.keep qb (by simp)
  have d : ∀ i, wz.cell? ⟨w.heap.size, i, none⟩ = _ := fun i => cell_of qz0
  have d0 := d 0
  have d1 := d 1
  have d2 := d 2
  have d5 := d 5
  clear d
  go_enter Try.func28, Try.ntmps28
  go_wp2_with fail
  refine (HB.out _).mono ?_
  rintro e w1 ⟨rfl, f1, k1⟩
  have q1 := f1.keep qz0 (by simp)
  have qm := f1.keep qz (by simp)
  have e5 : w1.cell? ⟨w.heap.size, 5, none⟩ = _ := cell_of q1
  clear hwb hwz
  go_wp2_with (first | (refine wpList_load_row rfl 56 (.tmp 1) rfl _ rfl _ _ _ _ q1 Try.underlying56 rfl (by kernel_rfl) ?_) | (refine wpList_store_row rfl 64 (.tmp 2) (.tmp 21) rfl B _ rfl rfl _ _ qm (by kernel_rfl) rfl (by simp [Value.oneCell']) ?_))
  have hq := setRow_heap w1 B _ #[.pointer (some ⟨wz.heap.size, 0, none⟩), .int .i64 r, .int .i64 p, .int .i64 u, .int .i64 lat, .int .i64 lim, .int .u64 now, .slice none 0 0, .bool false, .int .u64 0, .int .u64 now] _ _ qm
  have hz1 := fz.size
  have hz2 := fb.size
  have hz3 := f1.size
  have hlt := k1.lt
  have hBz := lt_of_heap qz
  refine bodyPost_ret (results_cell_row Try.results28 _ _ B _ _ _ _ rfl hq Try.underlying64 rfl (by kernel_rfl)) rfl ?_
  have f2 := (Fr.refl [B] w1).setRow41 (g := B) (.inl (by simp)) #[.pointer (some ⟨wz.heap.size, 0, none⟩), .int .i64 r, .int .i64 p, .int .i64 u, .int .i64 lat, .int .i64 lim, .int .u64 now, .slice none 0 0, .bool false, .int .u64 0, .int .u64 now]
  exact ⟨_, rfl, ((fb.then0 fz).then0 f1).trans f2 (by simp) (fun x hx => .inr (by simp at hx; omega)), f2.keep k1 (by simp; omega), by omega, Nat.lt_of_lt_of_le hlt f2.size⟩

theorem array6 {cs : Array Value} (h : cs.size = 6) : ∃ c0 c1 c2 c3 c4 c5, cs = #[c0, c1, c2, c3, c4, c5] := by
  obtain ⟨l⟩ := cs
  match l, h with
  | [c0, c1, c2, c3, c4, c5], _ => exact ⟨c0, c1, c2, c3, c4, c5, rfl⟩
theorem set41_of {H : Type} {enc : TypeId × Value → H} {w : World} {base b0 : Nat} {r : Reach} {v : Value} {d : DataW H} {p : List MemPlace}
    (hv : Value.okWide Try.prog w r b0 56 v) (h : DataW.Trod enc Try.prog w base (fun _ => true) true 56 v d p) :
    ∃ r p u lat lim now : Int, v = .agg #[.int .i64 r, .int .i64 p, .int .i64 u, .int .i64 lat, .int .i64 lim, .int .u64 now] ∧ 0 ≤ now ∧ now ≤ 18446744073709551615 := by
  obtain ⟨cs, rfl, hsz⟩ := okWide_struct Try.underlying56 hv
  obtain ⟨c0, c1, c2, c3, c4, c5, rfl⟩ := array6 (hsz.trans (by kernel_rfl))
  obtain ⟨fuel, hf⟩ := h
  obtain ⟨xs, n, _, _, hl, hlen, hf'⟩ := DataW.trod_struct Try.underlying56 hf
  have key : ∀ i, i < 6 → ∃ y, xs[i]? = some y := fun i hi => ⟨_, List.getElem?_eq_getElem (by rw [hlen]; exact hi)⟩
  have hi1 : Try.prog.cellsOf 3 = 1 := by kernel_rfl
  have hi2 : Try.prog.cellsOf 25 = 1 := by kernel_rfl
  obtain ⟨y0, e0⟩ := key 0 (by omega)
  obtain ⟨y1, e1⟩ := key 1 (by omega)
  obtain ⟨y2, e2⟩ := key 2 (by omega)
  obtain ⟨y3, e3⟩ := key 3 (by omega)
  obtain ⟨y4, e4⟩ := key 4 (by omega)
  obtain ⟨y5, e5⟩ := key 5 (by omega)
  have g0 : DataW.trod enc Try.prog w base (fun _ => true) true n 3 [c0] = some y0 := by rw [← e0]; simpa [Value.cells, hi1] using hf' 0 _ rfl
  have g1 : DataW.trod enc Try.prog w base (fun _ => true) true n 3 [c1] = some y1 := by rw [← e1]; simpa [Value.cells, hi1] using hf' 1 _ rfl
  have g2 : DataW.trod enc Try.prog w base (fun _ => true) true n 3 [c2] = some y2 := by rw [← e2]; simpa [Value.cells, hi1] using hf' 2 _ rfl
  have g3 : DataW.trod enc Try.prog w base (fun _ => true) true n 3 [c3] = some y3 := by rw [← e3]; simpa [Value.cells, hi1] using hf' 3 _ rfl
  have g4 : DataW.trod enc Try.prog w base (fun _ => true) true n 3 [c4] = some y4 := by rw [← e4]; simpa [Value.cells, hi1] using hf' 4 _ rfl
  have g5 : DataW.trod enc Try.prog w base (fun _ => true) true n 25 [c5] = some y5 := by rw [← e5]; simpa [Value.cells, hi2] using hf' 5 _ rfl
  obtain ⟨z0, q0, _, _⟩ := DataW.trod_int Try.underlying3 g0
  obtain ⟨z1, q1, _, _⟩ := DataW.trod_int Try.underlying3 g1
  obtain ⟨z2, q2, _, _⟩ := DataW.trod_int Try.underlying3 g2
  obtain ⟨z3, q3, _, _⟩ := DataW.trod_int Try.underlying3 g3
  obtain ⟨z4, q4, _, _⟩ := DataW.trod_int Try.underlying3 g4
  obtain ⟨z5, q5, _, k5⟩ := DataW.trod_int Try.underlying25 g5
  simp only [List.cons.injEq, and_true] at q0 q1 q2 q3 q4 q5
  subst q0 q1 q2 q3 q4 q5
  have := wf_u64 k5
  exact ⟨z0, z1, z2, z3, z4, z5, rfl, this.1, this.2⟩

set_option maxHeartbeats 4000000 in
theorem shaperStarts_walk {r p u lat lim now : Int} (h0 : 0 ≤ now) (h1 : now ≤ 18446744073709551615) (w : World) :
    Calls Try.prog 8 #[.agg #[.int .i64 r, .int .i64 p, .int .i64 u, .int .i64 lat, .int .i64 lim, .int .u64 now]] w fun e w' => e = .returned (.bool true) ∧ Fr [] w w' := by
  obtain ⟨wb, hwb, fb, qb⟩ : ∃ W, w.alloc (.cells #[.int .i64 r, .int .i64 p, .int .i64 u, .int .i64 lat, .int .i64 lim, .int .u64 now] 56) = W ∧ Fr [] w W ∧ W.heap[w.heap.size]? = some (.cells #[.int .i64 r, .int .i64 p, .int .i64 u, .int .i64 lat, .int .i64 lim, .int .u64 now] 56 (0, 0)) := ⟨_, rfl, (Fr.refl _ _).alloc _, newA rfl⟩
  by_cases hv : ValS r p u lat lim now
  · have HM := Lib.hid fun w => made41_ok w hv h0 h1
    have HV := Lib.hid fun w => valid41_yes w hv
    have HB := Lib.hid fun w => begin41 (lat := lat) (lim := lim) w hv.1
    have hb0 := hv.1
    clear hv
    go_enter Try.func8, Try.ntmps8
    go_wp2_with (refine wpList_load_row rfl 56 (.tmp 1) rfl _ rfl _ _ _ _ qb Try.underlying56 rfl (by kernel_rfl) ?_)
    refine (HM.out _).mono ?_
    rintro e w1 ⟨b, k, rfl, f1, s1, l1, l2⟩
    have q1 := f1.keep qb (by simp)
    replace s1 := Lib.hid s1
    clear HM
    go_wp2_with (refine wpList_load_row rfl 56 (.tmp 1) rfl _ rfl _ _ _ _ q1 Try.underlying56 rfl (by kernel_rfl) ?_)
    refine (HV.out _).mono ?_
    rintro e w2 ⟨rfl, f2⟩
    have q2 := f2.keep q1 (by simp)
    replace s1 := Lib.hid (s1.out.keep0 f2)
    clear HV q1
    have d0 : w2.cell? ⟨w.heap.size, 0, none⟩ = some (.int .i64 r) := cell_of q2
    have d1 : w2.cell? ⟨w.heap.size, 1, none⟩ = some (.int .i64 p) := cell_of q2
    have d2 : w2.cell? ⟨w.heap.size, 2, none⟩ = some (.int .i64 u) := cell_of q2
    have d3 : w2.cell? ⟨w.heap.size, 3, none⟩ = some (.int .i64 lat) := cell_of q2
    have d4 : w2.cell? ⟨w.heap.size, 4, none⟩ = some (.int .i64 lim) := cell_of q2
    have d5 : w2.cell? ⟨w.heap.size, 5, none⟩ = some (.int .u64 now) := cell_of q2
    have zb := fb.size
    go_wp2_with fail
    refine (HB.out _).mono ?_
    rintro e w3 ⟨mb, rfl, f3, k3, l3, l4⟩
    have AL := Lib.hid (alike41 (mb := mb) (nl := 0) (mc := 0) (ma := none) (now0 := now) (s1.out.keep0 f3) (by intro h; simp [newH, flatS] at h) (by simp [newH, flatS]))
    simp only [newH] at AL
    replace AL := Lib.hid AL
    clear HB d0 d1 d2 d3 d4 d5 k3 q2 s1
    go_wp2_with fail
    refine AL.out.out.mono ?_
    rintro e w4 ⟨rfl, f4⟩
    clear AL
    go_wp2_with fail
    refine (known41 _).mono ?_
    rintro e w5 ⟨rfl, f5⟩
    go_wp2_with fail
    go_ret
    exact ⟨rfl, ((((fb.then0 f1).then0 f2).then0 f3).then0 f4).then0 f5⟩
  · have HM := Lib.hid fun w => made41_no w hv
    have HV := Lib.hid fun w => valid41_no w hv
    clear hv
    go_enter Try.func8, Try.ntmps8
    go_wp2_with (refine wpList_load_row rfl 56 (.tmp 1) rfl _ rfl _ _ _ _ qb Try.underlying56 rfl (by kernel_rfl) ?_)
    refine (HM.out _).mono ?_
    rintro e w1 ⟨rfl, f1⟩
    have q1 := f1.keep qb (by simp)
    clear HM
    go_wp2_with (refine wpList_load_row rfl 56 (.tmp 1) rfl _ rfl _ _ _ _ q1 Try.underlying56 rfl (by kernel_rfl) ?_)
    refine (HV.out _).mono ?_
    rintro e w2 ⟨rfl, f2⟩
    clear HV q1
    go_wp2_with fail
    refine (known41 _).mono ?_
    rintro e w3 ⟨rfl, f3⟩
    go_wp2_with fail
    go_ret
    exact ⟨rfl, ((fb.then0 f1).then0 f2).then0 f3⟩
end Go.Proofs.Ytdndabklcenndaa
