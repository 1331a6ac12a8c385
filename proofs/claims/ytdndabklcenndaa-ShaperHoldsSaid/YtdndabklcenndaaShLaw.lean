/-
  Law 41: valid, made, begin, later, wrong, alike.
-/
import Derived.Test.YtdndabklcenndaaShKnown
import Derived.Test.YtdndabklcenndaaRegionX
import Derived.Laws.Rows
import Derived.Laws.ResultCell
namespace Go.Proofs.Ytdndabklcenndaa
open Go.RowKit
set_option maxRecDepth 100000

theorem made41_ok {r p u lat lim now : Int} (w : World) (h : ValS r p u lat lim now) (h0 : 0 ≤ now) (h1 : now ≤ 18446744073709551615) :
    Calls Try.prog 24 #[.agg #[.int .i64 r, .int .i64 p, .int .i64 u, .int .i64 lat, .int .i64 lim, .int .u64 now]] w fun e w' =>
      ∃ b k, e = .returned (.tuple #[.pointer (some ⟨b, 0, none⟩), .int .i64 0]) ∧ Fr [] w w' ∧ Shp w' [b, k] b k (newH r p u lat lim now) ∧ w.heap.size ≤ b ∧ w.heap.size ≤ k := by
  have HN := Lib.hid fun w => sh_new_ok w h h0 h1
  clear h
  go_enter Try.func24, Try.ntmps24
  go_wp2_with fail
  refine (HN.out _).mono ?_
  rintro e w1 ⟨b, rfl, f1, l1, s1⟩
  replace s1 := Lib.hid s1
  generalize hK : (w.alloc (.cells #[.int .i64 r, .int .i64 p, .int .i64 u, .int .i64 lat, .int .i64 lim, .int .u64 now] 56)).heap.size = K at *
  have hK2 : w.heap.size ≤ K := by rw [← hK]; simp
  clear hK HN
  go_wp2_with fail
  go_ret2
  exact ⟨b, K, rfl, ((Fr.refl _ _).alloc _).then0 f1, s1.out, by omega, by omega⟩
theorem made41_no {r p u lat lim now : Int} (w : World) (h : ¬ ValS r p u lat lim now) :
    Calls Try.prog 24 #[.agg #[.int .i64 r, .int .i64 p, .int .i64 u, .int .i64 lat, .int .i64 lim, .int .u64 now]] w fun e w' =>
      e = .returned (.tuple #[.pointer none, .int .i64 2]) ∧ Fr [] w w' := by
  have HN := Lib.hid fun w => sh_new_no w h
  clear h
  go_enter Try.func24, Try.ntmps24
  go_wp2_with fail
  refine (HN.out _).mono ?_
  rintro e w1 ⟨rfl, f1⟩
  clear HN
  go_wp2_with fail
  go_ret2
  exact ⟨rfl, ((Fr.refl _ _).alloc _).then0 f1⟩
theorem valid41_yes {r p u lat lim now : Int} (w : World) (h : ValS r p u lat lim now) :
    Calls Try.prog 25 #[.agg #[.int .i64 r, .int .i64 p, .int .i64 u, .int .i64 lat, .int .i64 lim, .int .u64 now]] w fun e w' => e = .returned (.bool true) ∧ Fr [] w w' := by
  obtain ⟨hv, a1, a2, a3, a4⟩ := h
  have HB := Lib.hid fun w => new_ok w hv
  clear hv
  obtain ⟨wb, hwb, fb, qb⟩ : ∃ W, w.alloc (.cells #[.int .i64 r, .int .i64 p, .int .i64 u, .int .i64 lat, .int .i64 lim, .int .u64 now] 56) = W ∧ Fr [] w W ∧ W.heap[w.heap.size]? = some (.cells #[.int .i64 r, .int .i64 p, .int .i64 u, .int .i64 lat, .int .i64 lim, .int .u64 now] 56 (0, 0)) := ⟨_, rfl, (Fr.refl _ _).alloc _, newA rfl⟩
  have d : ∀ i, wb.cell? ⟨w.heap.size, i, none⟩ = _ := fun i => cell_of qb
  have d0 := d 0
  have d1 := d 1
  have d2 := d 2
  have d5 := d 5
  clear d
  go_enter Try.func25, Try.ntmps25
  go_wp2_with fail
  refine (HB.out _).mono ?_
  rintro e w1 ⟨rfl, f1, _⟩
  have d3 : w1.cell? ⟨w.heap.size, 3, none⟩ = _ := cell_of (f1.keep qb (by simp))
  have d4 : w1.cell? ⟨w.heap.size, 4, none⟩ = _ := cell_of (f1.keep qb (by simp))
  clear HB
  go_wp2_with fail
  go_ret
  exact ⟨rfl, fb.then0 f1⟩
theorem valid41_no1 {r p u lat lim now : Int} (w : World) (hv : Val r p u now) (h1 : lat < 0) :
    Calls Try.prog 25 #[.agg #[.int .i64 r, .int .i64 p, .int .i64 u, .int .i64 lat, .int .i64 lim, .int .u64 now]] w fun e w' => e = .returned (.bool false) ∧ Fr [] w w' := by
  have HB := Lib.hid fun w => new_ok w hv
  clear hv
  obtain ⟨wb, hwb, fb, qb⟩ : ∃ W, w.alloc (.cells #[.int .i64 r, .int .i64 p, .int .i64 u, .int .i64 lat, .int .i64 lim, .int .u64 now] 56) = W ∧ Fr [] w W ∧ W.heap[w.heap.size]? = some (.cells #[.int .i64 r, .int .i64 p, .int .i64 u, .int .i64 lat, .int .i64 lim, .int .u64 now] 56 (0, 0)) := ⟨_, rfl, (Fr.refl _ _).alloc _, newA rfl⟩
  have d : ∀ i, wb.cell? ⟨w.heap.size, i, none⟩ = _ := fun i => cell_of qb
  have d0 := d 0
  have d1 := d 1
  have d2 := d 2
  have d5 := d 5
  clear d
  go_enter Try.func25, Try.ntmps25
  go_wp2_with fail
  refine (HB.out _).mono ?_
  rintro e w1 ⟨rfl, f1, _⟩
  have d3 : w1.cell? ⟨w.heap.size, 3, none⟩ = _ := cell_of (f1.keep qb (by simp))
  have d4 : w1.cell? ⟨w.heap.size, 4, none⟩ = _ := cell_of (f1.keep qb (by simp))
  clear HB
  try (have hd : decide (lim ≤ 65536) = false := by simp; omega)
  go_wp2_with fail
  go_ret
  exact ⟨rfl, fb.then0 f1⟩
theorem valid41_no2 {r p u lat lim now : Int} (w : World) (hv : Val r p u now) (h1 : 0 ≤ lat) (h2 : 1000000 < lat) :
    Calls Try.prog 25 #[.agg #[.int .i64 r, .int .i64 p, .int .i64 u, .int .i64 lat, .int .i64 lim, .int .u64 now]] w fun e w' => e = .returned (.bool false) ∧ Fr [] w w' := by
  have HB := Lib.hid fun w => new_ok w hv
  clear hv
  obtain ⟨wb, hwb, fb, qb⟩ : ∃ W, w.alloc (.cells #[.int .i64 r, .int .i64 p, .int .i64 u, .int .i64 lat, .int .i64 lim, .int .u64 now] 56) = W ∧ Fr [] w W ∧ W.heap[w.heap.size]? = some (.cells #[.int .i64 r, .int .i64 p, .int .i64 u, .int .i64 lat, .int .i64 lim, .int .u64 now] 56 (0, 0)) := ⟨_, rfl, (Fr.refl _ _).alloc _, newA rfl⟩
  have d : ∀ i, wb.cell? ⟨w.heap.size, i, none⟩ = _ := fun i => cell_of qb
  have d0 := d 0
  have d1 := d 1
  have d2 := d 2
  have d5 := d 5
  clear d
  go_enter Try.func25, Try.ntmps25
  go_wp2_with fail
  refine (HB.out _).mono ?_
  rintro e w1 ⟨rfl, f1, _⟩
  have d3 : w1.cell? ⟨w.heap.size, 3, none⟩ = _ := cell_of (f1.keep qb (by simp))
  have d4 : w1.cell? ⟨w.heap.size, 4, none⟩ = _ := cell_of (f1.keep qb (by simp))
  clear HB
  try (have hd : decide (lim ≤ 65536) = false := by simp; omega)
  go_wp2_with fail
  go_ret
  exact ⟨rfl, fb.then0 f1⟩
theorem valid41_no3 {r p u lat lim now : Int} (w : World) (hv : Val r p u now) (h1 : 0 ≤ lat) (h2 : lat ≤ 1000000) (h3 : lim < 1) :
    Calls Try.prog 25 #[.agg #[.int .i64 r, .int .i64 p, .int .i64 u, .int .i64 lat, .int .i64 lim, .int .u64 now]] w fun e w' => e = .returned (.bool false) ∧ Fr [] w w' := by
  have HB := Lib.hid fun w => new_ok w hv
  clear hv
  obtain ⟨wb, hwb, fb, qb⟩ : ∃ W, w.alloc (.cells #[.int .i64 r, .int .i64 p, .int .i64 u, .int .i64 lat, .int .i64 lim, .int .u64 now] 56) = W ∧ Fr [] w W ∧ W.heap[w.heap.size]? = some (.cells #[.int .i64 r, .int .i64 p, .int .i64 u, .int .i64 lat, .int .i64 lim, .int .u64 now] 56 (0, 0)) := ⟨_, rfl, (Fr.refl _ _).alloc _, newA rfl⟩
  have d : ∀ i, wb.cell? ⟨w.heap.size, i, none⟩ = _ := fun i => cell_of qb
  have d0 := d 0
  have d1 := d 1
  have d2 := d 2
  have d5 := d 5
  clear d
  go_enter Try.func25, Try.ntmps25
  go_wp2_with fail
  refine (HB.out _).mono ?_
  rintro e w1 ⟨rfl, f1, _⟩
  have d3 : w1.cell? ⟨w.heap.size, 3, none⟩ = _ := cell_of (f1.keep qb (by simp))
  have d4 : w1.cell? ⟨w.heap.size, 4, none⟩ = _ := cell_of (f1.keep qb (by simp))
  clear HB
  try (have hd : decide (lim ≤ 65536) = false := by simp; omega)
  go_wp2_with fail
  go_ret
  exact ⟨rfl, fb.then0 f1⟩
theorem valid41_no4 {r p u lat lim now : Int} (w : World) (hv : Val r p u now) (h1 : 0 ≤ lat) (h2 : lat ≤ 1000000) (h3 : 1 ≤ lim) (h4 : 65536 < lim) :
    Calls Try.prog 25 #[.agg #[.int .i64 r, .int .i64 p, .int .i64 u, .int .i64 lat, .int .i64 lim, .int .u64 now]] w fun e w' => e = .returned (.bool false) ∧ Fr [] w w' := by
  have HB := Lib.hid fun w => new_ok w hv
  clear hv
  obtain ⟨wb, hwb, fb, qb⟩ : ∃ W, w.alloc (.cells #[.int .i64 r, .int .i64 p, .int .i64 u, .int .i64 lat, .int .i64 lim, .int .u64 now] 56) = W ∧ Fr [] w W ∧ W.heap[w.heap.size]? = some (.cells #[.int .i64 r, .int .i64 p, .int .i64 u, .int .i64 lat, .int .i64 lim, .int .u64 now] 56 (0, 0)) := ⟨_, rfl, (Fr.refl _ _).alloc _, newA rfl⟩
  have d : ∀ i, wb.cell? ⟨w.heap.size, i, none⟩ = _ := fun i => cell_of qb
  have d0 := d 0
  have d1 := d 1
  have d2 := d 2
  have d5 := d 5
  clear d
  go_enter Try.func25, Try.ntmps25
  go_wp2_with fail
  refine (HB.out _).mono ?_
  rintro e w1 ⟨rfl, f1, _⟩
  have d3 : w1.cell? ⟨w.heap.size, 3, none⟩ = _ := cell_of (f1.keep qb (by simp))
  have d4 : w1.cell? ⟨w.heap.size, 4, none⟩ = _ := cell_of (f1.keep qb (by simp))
  clear HB
  try (have hd : decide (lim ≤ 65536) = false := by simp; omega)
  go_wp2_with fail
  go_ret
  exact ⟨rfl, fb.then0 f1⟩

theorem valid41_no0 {r p u lat lim now : Int} (w : World) (hv : ¬ Val r p u now) :
    Calls Try.prog 25 #[.agg #[.int .i64 r, .int .i64 p, .int .i64 u, .int .i64 lat, .int .i64 lim, .int .u64 now]] w fun e w' => e = .returned (.bool false) ∧ Fr [] w w' := by
  have HB := Lib.hid fun w => new_no w hv
  clear hv
  obtain ⟨wb, hwb, fb, qb⟩ : ∃ W, w.alloc (.cells #[.int .i64 r, .int .i64 p, .int .i64 u, .int .i64 lat, .int .i64 lim, .int .u64 now] 56) = W ∧ Fr [] w W ∧ W.heap[w.heap.size]? = some (.cells #[.int .i64 r, .int .i64 p, .int .i64 u, .int .i64 lat, .int .i64 lim, .int .u64 now] 56 (0, 0)) := ⟨_, rfl, (Fr.refl _ _).alloc _, newA rfl⟩
  have d : ∀ i, wb.cell? ⟨w.heap.size, i, none⟩ = _ := fun i => cell_of qb
  have d0 := d 0
  have d1 := d 1
  have d2 := d 2
  have d5 := d 5
  clear d
  go_enter Try.func25, Try.ntmps25
  go_wp2_with fail
  refine (HB.out _).mono ?_
  rintro e w1 ⟨rfl, rfl⟩
  clear HB
  go_wp2_with fail
  go_ret
  exact ⟨rfl, fb⟩
theorem valid41_no {r p u lat lim now : Int} (w : World) (h : ¬ ValS r p u lat lim now) :
    Calls Try.prog 25 #[.agg #[.int .i64 r, .int .i64 p, .int .i64 u, .int .i64 lat, .int .i64 lim, .int .u64 now]] w fun e w' => e = .returned (.bool false) ∧ Fr [] w w' := by
  by_cases hv : Val r p u now
  · by_cases h1 : 0 ≤ lat
    · by_cases h2 : lat ≤ 1000000
      · by_cases h3 : 1 ≤ lim
        · exact valid41_no4 w hv h1 h2 h3 (by apply Classical.byContradiction; intro hc; exact h ⟨hv, h1, h2, h3, by omega⟩)
        · exact valid41_no3 w hv h1 h2 (by omega)
      · exact valid41_no2 w hv h1 (by omega)
    · exact valid41_no1 w hv (by omega)
  · exact valid41_no0 w hv

theorem later41 {t lat : Int} (w : World) (h0 : 0 ≤ t) (h1 : t ≤ 18446744073709551615) (h2 : 0 ≤ lat) (h3 : lat ≤ 1000000) :
    Calls Try.prog 59 #[.int .u64 t, .int .i64 lat] w fun e w' => e = .returned (.int .u64 (plusT t lat)) ∧ w = w' := by
  by_cases h : 18446744073709551615 - t < lat
  · rw [show plusT t lat = 18446744073709551615 from if_pos (by omega)]
    go_enter Try.func59, Try.ntmps59
    go_wp2_with fail
    go_ret
    exact ⟨rfl, rfl⟩
  · rw [show plusT t lat = t + lat by unfold plusT; split <;> omega]
    have h' : lat ≤ 18446744073709551615 - t := by omega
    clear h
    go_enter Try.func59, Try.ntmps59
    go_wp2_with fail
    go_ret
    exact ⟨rfl, rfl⟩

/-- The bytes of the document's shaper. -/
def ByV (w : World) (L : List Nat) (a : Option Addr) (bs : List (UInt8 × Int)) : Prop := 0 < bs.length → ∃ b o, a = some ⟨b, o, none⟩ ∧ b < w.heap.size ∧ b ∉ L ∧ ∀ (i : Nat) x, bs[i]? = some x → w.cell? ⟨b, o + i * 2, none⟩ = some (.int .u8 x.1.toNat) ∧ w.cell? ⟨b, o + i * 2 + 1, none⟩ = some (.int .u64 x.2)
theorem ByV.keep {w w' : World} {L L' : List Nat} {a : Option Addr} {bs : List (UInt8 × Int)} (h : ByV w L a bs) {T : List Nat} (f : Fr T w w') (hT : ∀ y ∈ T, y ∈ L ∨ w.heap.size ≤ y) (hL : ∀ y ∈ L', y ∈ L ∨ w.heap.size ≤ y) : ByV w' L' a bs := fun h0 => by
  obtain ⟨b, o, e, hb, hn, hc⟩ := h h0
  refine ⟨b, o, e, Nat.lt_of_lt_of_le hb f.size, fun hm => (hL b hm).elim hn (by omega), fun i x hx => ?_⟩
  obtain ⟨c0, c1⟩ := hc i x hx
  have hbT : b ∉ T := fun hm => (hT b hm).elim hn (by omega)
  exact ⟨(World.cell?_of_block (w := w) (f.block b hb hbT)).trans c0, (World.cell?_of_block (w := w) (f.block b hb hbT)).trans c1⟩

theorem alike41 {w : World} {L : List Nat} {b k mb nl mc : Nat} {ma : Option Addr} {now0 : Int} {s : SH} (h : Shp w L b k s) (hb : ByV w L ma (flatS s.segs)) (hnl : nl = (flatS s.segs).length) :
    Calls Try.prog 27 #[.pointer (some ⟨b, 0, none⟩), .agg #[.pointer (some ⟨mb, 0, none⟩), .int .i64 s.r, .int .i64 s.p, .int .i64 s.u, .int .i64 s.lat, .int .i64 s.lim, .int .u64 now0, .slice ma nl mc, .bool s.closed, .int .u64 s.fin, .int .u64 s.last]] w fun e w' => e = .returned (.bool true) ∧ Fr [] w w' := by
  have HEL := Lib.hid (Go.Proofs.enters_of Try.func32 (by kernel_rfl) rfl)
  have HEN := Lib.hid (Go.Proofs.enters_of Try.func34 (by kernel_rfl) rfl)
  have htot : nl ≤ 65536 := by have := h.ok.tot; have := h.ok.lim1; have := flatS_length s.segs; omega
  obtain ⟨wb, hwb, fb, qb⟩ : ∃ W, w.alloc (.cells #[.pointer (some ⟨mb, 0, none⟩), .int .i64 s.r, .int .i64 s.p, .int .i64 s.u, .int .i64 s.lat, .int .i64 s.lim, .int .u64 now0, .slice ma nl mc, .bool s.closed, .int .u64 s.fin, .int .u64 s.last] 64) = W ∧ Fr [] w W ∧ W.heap[w.heap.size]? = some (.cells #[.pointer (some ⟨mb, 0, none⟩), .int .i64 s.r, .int .i64 s.p, .int .i64 s.u, .int .i64 s.lat, .int .i64 s.lim, .int .u64 now0, .slice ma nl mc, .bool s.closed, .int .u64 s.fin, .int .u64 s.last] 64 (0, 0)) := ⟨_, rfl, (Fr.refl _ _).alloc _, newA rfl⟩
  have d : ∀ i, wb.cell? ⟨w.heap.size, i, none⟩ = _ := fun i => cell_of qb
  have d2 := d 7
  have d3 := d 8
  have d4 := d 9
  clear d
  have HLEN := Lib.hid (sh_len (h.keep0 (fb.then0 ((Fr.refl [] wb).drew))))
  rw [← flatS_length, ← hnl] at HLEN
  have HNX := Lib.hid fun (w' : World) (f : Fr [] wb w') => sh_next (h.keep0 (fb.then0 f))
  have HFA := Lib.hid fun (w' : World) (f : Fr [] wb w') => (show w'.cell? ⟨w.heap.size, 7, none⟩ = some (.slice ma nl mc) from cell_of (f.keep qb (by simp)))
  have fd : Fr [] wb wb.drew := (Fr.refl _ _).drew
  have hp := h.ok.pos
  rcases hx : s.segs with _ | ⟨x, xs⟩
  · have hn0 : nl = 0 := by rw [hnl, hx]; rfl
    subst hn0
    rcases hc : s.closed with _ | _
    · have hn : nextH s = 18446744073709551615 := by unfold nextH; rw [hx, hc]; rfl
      rw [hn] at HNX
      rw [hc] at d3 hwb
      clear hn hnl h hb hx hc hp
      go_enter Try.func27, Try.ntmps27
      go_wp2_with fail
      refine wp_region_order [(0, true), (1, true), (2, true), (3, true), (5, true), (6, true), (7, true), (4, false), (8, true), (9, true), (10, true), (11, true), (13, true), (12, false), (14, true), (15, true), (16, true)] (fun w' => Fr [] wb w') (by kernel_rfl) (by kernel_rfl) fd ?_
      intro OPS HOPS
      have hops := HOPS.out
      try simp only [List.append_eq, List.cons_append, List.nil_append] at hops
      replace HOPS := Lib.hid hops
      clear hops
      refine walkO_take (o := _) (v := ?_) (by rw [HOPS.out]; simp only [List.getElem?_toArray, List.getElem?_cons_succ, List.getElem?_cons_zero]; exact rfl) (Or.inl ⟨rfl, ?_⟩) ?_
      rotate_left
      · (intro w hSw; have hSx := HFA.out _ hSw; (try dsimp only at hSx); clear hSw; go_simp) <;> (with_reducible rfl)
      simp only [Act.put, List.setIfInBounds_toArray, List.set_cons_zero, List.set_cons_succ]
      refine walkO_take (o := _) (v := ?_) (by rw [HOPS.out]; simp only [List.getElem?_toArray, List.getElem?_cons_succ, List.getElem?_cons_zero]; exact rfl) (Or.inl ⟨rfl, ?_⟩) ?_
      rotate_left
      · (intro w hSw; have hSx := HFA.out _ hSw; (try dsimp only at hSx); clear hSw; go_simp) <;> (with_reducible rfl)
      simp only [Act.put, List.setIfInBounds_toArray, List.set_cons_zero, List.set_cons_succ]
      refine walkO_take (o := _) (v := ?_) (by rw [HOPS.out]; simp only [List.getElem?_toArray, List.getElem?_cons_succ, List.getElem?_cons_zero]; exact rfl) (Or.inl ⟨rfl, ?_⟩) ?_
      rotate_left
      · (intro w hSw; have hSx := HFA.out _ hSw; (try dsimp only at hSx); clear hSw; go_simp) <;> (with_reducible rfl)
      simp only [Act.put, List.setIfInBounds_toArray, List.set_cons_zero, List.set_cons_succ]
      refine walkO_take (o := _) (v := ?_) (by rw [HOPS.out]; simp only [List.getElem?_toArray, List.getElem?_cons_succ, List.getElem?_cons_zero]; exact rfl) (Or.inl ⟨by rw [HOPS.out]; rfl, ?_⟩) ?_
      rotate_left
      · (intro w hSw; have hSx := HFA.out _ hSw; (try dsimp only at hSx); clear hSw; go_simp) <;> (with_reducible rfl)
      simp only [Act.put, List.setIfInBounds_toArray, List.set_cons_zero, List.set_cons_succ]
      refine walkO_take (o := _) (v := ?_) (by rw [HOPS.out]; simp only [List.getElem?_toArray, List.getElem?_cons_succ, List.getElem?_cons_zero]; exact rfl) (Or.inl ⟨by rw [HOPS.out]; rfl, ?_⟩) ?_
      rotate_left
      · (intro w hSw; have hSx := HFA.out _ hSw; (try dsimp only at hSx); clear hSw; go_simp) <;> (with_reducible rfl)
      simp only [Act.put, List.setIfInBounds_toArray, List.set_cons_zero, List.set_cons_succ]
      refine walkO_take (o := _) (v := ?_) (by rw [HOPS.out]; simp only [List.getElem?_toArray, List.getElem?_cons_succ, List.getElem?_cons_zero]; exact rfl) (Or.inl ⟨by rw [HOPS.out]; rfl, ?_⟩) ?_
      rotate_left
      · (intro w hSw; have hSx := HFA.out _ hSw; (try dsimp only at hSx); clear hSw; go_simp) <;> (with_reducible rfl)
      simp only [Act.put, List.setIfInBounds_toArray, List.set_cons_zero, List.set_cons_succ]
      refine walkO_take (o := _) (v := ?_) (by rw [HOPS.out]; simp only [List.getElem?_toArray, List.getElem?_cons_succ, List.getElem?_cons_zero]; exact rfl) (Or.inl ⟨by rw [HOPS.out]; rfl, ?_⟩) ?_
      rotate_left
      · (intro w hSw; have hSx := HFA.out _ hSw; (try dsimp only at hSx); clear hSw; go_simp) <;> (with_reducible rfl)
      simp only [Act.put, List.setIfInBounds_toArray, List.set_cons_zero, List.set_cons_succ]
      refine walkO_call (o := _) (by rw [HOPS.out]; simp only [List.getElem?_toArray, List.getElem?_cons_succ, List.getElem?_cons_zero]; exact rfl) (fun K HK => ?_)
      refine step_call (by rw [HOPS.out]; rfl) 32 #[(.tmp 22)] #[57] rfl HEL.out #[.pointer (some ⟨b, 0, none⟩)] (by simp [Act.eval]) (HLEN.out) ?_
      rintro e w1 ⟨rfl, f1⟩
      have g1 : Fr [] wb w1 := fd.then0 f1
      refine ⟨_, rfl, ?_⟩
      refine HK.out (fun w' => Fr [] wb w') _ _ (fun _ h => h) (g1) ?_
      clear HK K
      simp only [Act.put, List.setIfInBounds_toArray, List.set_cons_zero, List.set_cons_succ]
      refine walkO_take (o := _) (v := ?_) (by rw [HOPS.out]; simp only [List.getElem?_toArray, List.getElem?_cons_succ, List.getElem?_cons_zero]; exact rfl) (Or.inl ⟨by rw [HOPS.out]; rfl, ?_⟩) ?_
      rotate_left
      · (intro w hSw; have hSx := HFA.out _ hSw; (try dsimp only at hSx); clear hSw; go_simp) <;> (with_reducible rfl)
      simp only [Act.put, List.setIfInBounds_toArray, List.set_cons_zero, List.set_cons_succ]
      refine walkO_take (o := _) (v := ?_) (by rw [HOPS.out]; simp only [List.getElem?_toArray, List.getElem?_cons_succ, List.getElem?_cons_zero]; exact rfl) (Or.inl ⟨rfl, ?_⟩) ?_
      rotate_left
      · (intro w hSw; have hSx := HFA.out _ hSw; (try dsimp only at hSx); clear hSw; go_simp) <;> (with_reducible rfl)
      simp only [Act.put, List.setIfInBounds_toArray, List.set_cons_zero, List.set_cons_succ]
      refine walkO_take (o := _) (v := ?_) (by rw [HOPS.out]; simp only [List.getElem?_toArray, List.getElem?_cons_succ, List.getElem?_cons_zero]; exact rfl) (Or.inl ⟨rfl, ?_⟩) ?_
      rotate_left
      · (intro w hSw; have hSx := HFA.out _ hSw; (try dsimp only at hSx); clear hSw; go_simp) <;> (with_reducible rfl)
      simp only [Act.put, List.setIfInBounds_toArray, List.set_cons_zero, List.set_cons_succ]
      refine walkO_take (o := _) (v := ?_) (by rw [HOPS.out]; simp only [List.getElem?_toArray, List.getElem?_cons_succ, List.getElem?_cons_zero]; exact rfl) (Or.inl ⟨by rw [HOPS.out]; rfl, ?_⟩) ?_
      rotate_left
      · (intro w hSw; have hSx := HFA.out _ hSw; (try dsimp only at hSx); clear hSw; go_simp) <;> (with_reducible rfl)
      simp only [Act.put, List.setIfInBounds_toArray, List.set_cons_zero, List.set_cons_succ]
      refine walkO_take (o := _) (v := ?_) (by rw [HOPS.out]; simp only [List.getElem?_toArray, List.getElem?_cons_succ, List.getElem?_cons_zero]; exact rfl) (Or.inl ⟨by rw [HOPS.out]; rfl, ?_⟩) ?_
      rotate_left
      · (intro w hSw; have hSx := HFA.out _ hSw; (try dsimp only at hSx); clear hSw; go_simp) <;> (with_reducible rfl)
      simp only [Act.put, List.setIfInBounds_toArray, List.set_cons_zero, List.set_cons_succ]
      refine walkO_call (o := _) (by rw [HOPS.out]; simp only [List.getElem?_toArray, List.getElem?_cons_succ, List.getElem?_cons_zero]; exact rfl) (fun K HK => ?_)
      refine step_call (by rw [HOPS.out]; rfl) 34 #[(.tmp 30)] #[57] rfl HEN.out #[.pointer (some ⟨b, 0, none⟩)] (by simp [Act.eval]) (HNX.out _ g1) ?_
      rintro e w2 ⟨rfl, rfl⟩
      refine ⟨_, rfl, ?_⟩
      refine HK.out (fun w' => Fr [] wb w') _ _ (fun _ h => h) (g1) ?_
      clear HK K
      simp only [Act.put, List.setIfInBounds_toArray, List.set_cons_zero, List.set_cons_succ]
      refine walkO_take (o := _) (v := ?_) (by rw [HOPS.out]; simp only [List.getElem?_toArray, List.getElem?_cons_succ, List.getElem?_cons_zero]; exact rfl) (Or.inl ⟨by rw [HOPS.out]; rfl, ?_⟩) ?_
      rotate_left
      · (intro w hSw; have hSx := HFA.out _ hSw; (try dsimp only at hSx); clear hSw; go_simp) <;> (with_reducible rfl)
      simp only [Act.put, List.setIfInBounds_toArray, List.set_cons_zero, List.set_cons_succ]
      refine walkO_take (o := _) (v := ?_) (by rw [HOPS.out]; simp only [List.getElem?_toArray, List.getElem?_cons_succ, List.getElem?_cons_zero]; exact rfl) (Or.inl ⟨rfl, ?_⟩) ?_
      rotate_left
      · (intro w hSw; have hSx := HFA.out _ hSw; (try dsimp only at hSx); clear hSw; go_simp) <;> (with_reducible rfl)
      simp only [Act.put, List.setIfInBounds_toArray, List.set_cons_zero, List.set_cons_succ]
      refine walkO_take (o := _) (v := ?_) (by rw [HOPS.out]; simp only [List.getElem?_toArray, List.getElem?_cons_succ, List.getElem?_cons_zero]; exact rfl) (Or.inl ⟨rfl, ?_⟩) ?_
      rotate_left
      · (intro w hSw; have hSx := HFA.out _ hSw; (try dsimp only at hSx); clear hSw; go_simp) <;> (with_reducible rfl)
      simp only [Act.put, List.setIfInBounds_toArray, List.set_cons_zero, List.set_cons_succ]
      refine walkO_done ?_
      clear HOPS OPS
      go_wp2_with fail
      go_ret
      exact ⟨rfl, fb.then0 g1⟩
    · have hn : nextH s = s.fin := by unfold nextH; rw [hx, hc]; rfl
      rw [hn] at HNX
      rw [hc] at d3 hwb
      clear hn hnl h hb hx hc hp
      go_enter Try.func27, Try.ntmps27
      go_wp2_with fail
      refine wp_region_order [(0, true), (1, true), (2, true), (3, true), (5, true), (6, true), (7, true), (4, false), (8, true), (9, true), (10, true), (11, true), (13, true), (12, false), (14, true), (15, true), (16, true)] (fun w' => Fr [] wb w') (by kernel_rfl) (by kernel_rfl) fd ?_
      intro OPS HOPS
      have hops := HOPS.out
      try simp only [List.append_eq, List.cons_append, List.nil_append] at hops
      replace HOPS := Lib.hid hops
      clear hops
      refine walkO_take (o := _) (v := ?_) (by rw [HOPS.out]; simp only [List.getElem?_toArray, List.getElem?_cons_succ, List.getElem?_cons_zero]; exact rfl) (Or.inl ⟨rfl, ?_⟩) ?_
      rotate_left
      · (intro w hSw; have hSx := HFA.out _ hSw; (try dsimp only at hSx); clear hSw; go_simp) <;> (with_reducible rfl)
      simp only [Act.put, List.setIfInBounds_toArray, List.set_cons_zero, List.set_cons_succ]
      refine walkO_take (o := _) (v := ?_) (by rw [HOPS.out]; simp only [List.getElem?_toArray, List.getElem?_cons_succ, List.getElem?_cons_zero]; exact rfl) (Or.inl ⟨rfl, ?_⟩) ?_
      rotate_left
      · (intro w hSw; have hSx := HFA.out _ hSw; (try dsimp only at hSx); clear hSw; go_simp) <;> (with_reducible rfl)
      simp only [Act.put, List.setIfInBounds_toArray, List.set_cons_zero, List.set_cons_succ]
      refine walkO_take (o := _) (v := ?_) (by rw [HOPS.out]; simp only [List.getElem?_toArray, List.getElem?_cons_succ, List.getElem?_cons_zero]; exact rfl) (Or.inl ⟨rfl, ?_⟩) ?_
      rotate_left
      · (intro w hSw; have hSx := HFA.out _ hSw; (try dsimp only at hSx); clear hSw; go_simp) <;> (with_reducible rfl)
      simp only [Act.put, List.setIfInBounds_toArray, List.set_cons_zero, List.set_cons_succ]
      refine walkO_take (o := _) (v := ?_) (by rw [HOPS.out]; simp only [List.getElem?_toArray, List.getElem?_cons_succ, List.getElem?_cons_zero]; exact rfl) (Or.inl ⟨by rw [HOPS.out]; rfl, ?_⟩) ?_
      rotate_left
      · (intro w hSw; have hSx := HFA.out _ hSw; (try dsimp only at hSx); clear hSw; go_simp) <;> (with_reducible rfl)
      simp only [Act.put, List.setIfInBounds_toArray, List.set_cons_zero, List.set_cons_succ]
      refine walkO_take (o := _) (v := ?_) (by rw [HOPS.out]; simp only [List.getElem?_toArray, List.getElem?_cons_succ, List.getElem?_cons_zero]; exact rfl) (Or.inl ⟨by rw [HOPS.out]; rfl, ?_⟩) ?_
      rotate_left
      · (intro w hSw; have hSx := HFA.out _ hSw; (try dsimp only at hSx); clear hSw; go_simp) <;> (with_reducible rfl)
      simp only [Act.put, List.setIfInBounds_toArray, List.set_cons_zero, List.set_cons_succ]
      refine walkO_take (o := _) (v := ?_) (by rw [HOPS.out]; simp only [List.getElem?_toArray, List.getElem?_cons_succ, List.getElem?_cons_zero]; exact rfl) (Or.inl ⟨by rw [HOPS.out]; rfl, ?_⟩) ?_
      rotate_left
      · (intro w hSw; have hSx := HFA.out _ hSw; (try dsimp only at hSx); clear hSw; go_simp) <;> (with_reducible rfl)
      simp only [Act.put, List.setIfInBounds_toArray, List.set_cons_zero, List.set_cons_succ]
      refine walkO_take (o := _) (v := ?_) (by rw [HOPS.out]; simp only [List.getElem?_toArray, List.getElem?_cons_succ, List.getElem?_cons_zero]; exact rfl) (Or.inl ⟨by rw [HOPS.out]; rfl, ?_⟩) ?_
      rotate_left
      · (intro w hSw; have hSx := HFA.out _ hSw; (try dsimp only at hSx); clear hSw; go_simp) <;> (with_reducible rfl)
      simp only [Act.put, List.setIfInBounds_toArray, List.set_cons_zero, List.set_cons_succ]
      refine walkO_call (o := _) (by rw [HOPS.out]; simp only [List.getElem?_toArray, List.getElem?_cons_succ, List.getElem?_cons_zero]; exact rfl) (fun K HK => ?_)
      refine step_call (by rw [HOPS.out]; rfl) 32 #[(.tmp 22)] #[57] rfl HEL.out #[.pointer (some ⟨b, 0, none⟩)] (by simp [Act.eval]) (HLEN.out) ?_
      rintro e w1 ⟨rfl, f1⟩
      have g1 : Fr [] wb w1 := fd.then0 f1
      refine ⟨_, rfl, ?_⟩
      refine HK.out (fun w' => Fr [] wb w') _ _ (fun _ h => h) (g1) ?_
      clear HK K
      simp only [Act.put, List.setIfInBounds_toArray, List.set_cons_zero, List.set_cons_succ]
      refine walkO_take (o := _) (v := ?_) (by rw [HOPS.out]; simp only [List.getElem?_toArray, List.getElem?_cons_succ, List.getElem?_cons_zero]; exact rfl) (Or.inl ⟨by rw [HOPS.out]; rfl, ?_⟩) ?_
      rotate_left
      · (intro w hSw; have hSx := HFA.out _ hSw; (try dsimp only at hSx); clear hSw; go_simp) <;> (with_reducible rfl)
      simp only [Act.put, List.setIfInBounds_toArray, List.set_cons_zero, List.set_cons_succ]
      refine walkO_take (o := _) (v := ?_) (by rw [HOPS.out]; simp only [List.getElem?_toArray, List.getElem?_cons_succ, List.getElem?_cons_zero]; exact rfl) (Or.inl ⟨rfl, ?_⟩) ?_
      rotate_left
      · (intro w hSw; have hSx := HFA.out _ hSw; (try dsimp only at hSx); clear hSw; go_simp) <;> (with_reducible rfl)
      simp only [Act.put, List.setIfInBounds_toArray, List.set_cons_zero, List.set_cons_succ]
      refine walkO_take (o := _) (v := ?_) (by rw [HOPS.out]; simp only [List.getElem?_toArray, List.getElem?_cons_succ, List.getElem?_cons_zero]; exact rfl) (Or.inl ⟨rfl, ?_⟩) ?_
      rotate_left
      · (intro w hSw; have hSx := HFA.out _ hSw; (try dsimp only at hSx); clear hSw; go_simp) <;> (with_reducible rfl)
      simp only [Act.put, List.setIfInBounds_toArray, List.set_cons_zero, List.set_cons_succ]
      refine walkO_take (o := _) (v := ?_) (by rw [HOPS.out]; simp only [List.getElem?_toArray, List.getElem?_cons_succ, List.getElem?_cons_zero]; exact rfl) (Or.inl ⟨by rw [HOPS.out]; rfl, ?_⟩) ?_
      rotate_left
      · (intro w hSw; have hSx := HFA.out _ hSw; (try dsimp only at hSx); clear hSw; go_simp) <;> (with_reducible rfl)
      simp only [Act.put, List.setIfInBounds_toArray, List.set_cons_zero, List.set_cons_succ]
      refine walkO_take (o := _) (v := ?_) (by rw [HOPS.out]; simp only [List.getElem?_toArray, List.getElem?_cons_succ, List.getElem?_cons_zero]; exact rfl) (Or.inl ⟨by rw [HOPS.out]; rfl, ?_⟩) ?_
      rotate_left
      · (intro w hSw; have hSx := HFA.out _ hSw; (try dsimp only at hSx); clear hSw; go_simp) <;> (with_reducible rfl)
      simp only [Act.put, List.setIfInBounds_toArray, List.set_cons_zero, List.set_cons_succ]
      refine walkO_call (o := _) (by rw [HOPS.out]; simp only [List.getElem?_toArray, List.getElem?_cons_succ, List.getElem?_cons_zero]; exact rfl) (fun K HK => ?_)
      refine step_call (by rw [HOPS.out]; rfl) 34 #[(.tmp 30)] #[57] rfl HEN.out #[.pointer (some ⟨b, 0, none⟩)] (by simp [Act.eval]) (HNX.out _ g1) ?_
      rintro e w2 ⟨rfl, rfl⟩
      refine ⟨_, rfl, ?_⟩
      refine HK.out (fun w' => Fr [] wb w') _ _ (fun _ h => h) (g1) ?_
      clear HK K
      simp only [Act.put, List.setIfInBounds_toArray, List.set_cons_zero, List.set_cons_succ]
      refine walkO_take (o := _) (v := ?_) (by rw [HOPS.out]; simp only [List.getElem?_toArray, List.getElem?_cons_succ, List.getElem?_cons_zero]; exact rfl) (Or.inl ⟨by rw [HOPS.out]; rfl, ?_⟩) ?_
      rotate_left
      · (intro w hSw; have hSx := HFA.out _ hSw; (try dsimp only at hSx); clear hSw; go_simp) <;> (with_reducible rfl)
      simp only [Act.put, List.setIfInBounds_toArray, List.set_cons_zero, List.set_cons_succ]
      refine walkO_take (o := _) (v := ?_) (by rw [HOPS.out]; simp only [List.getElem?_toArray, List.getElem?_cons_succ, List.getElem?_cons_zero]; exact rfl) (Or.inl ⟨rfl, ?_⟩) ?_
      rotate_left
      · (intro w hSw; have hSx := HFA.out _ hSw; (try dsimp only at hSx); clear hSw; go_simp) <;> (with_reducible rfl)
      simp only [Act.put, List.setIfInBounds_toArray, List.set_cons_zero, List.set_cons_succ]
      refine walkO_take (o := _) (v := ?_) (by rw [HOPS.out]; simp only [List.getElem?_toArray, List.getElem?_cons_succ, List.getElem?_cons_zero]; exact rfl) (Or.inl ⟨rfl, ?_⟩) ?_
      rotate_left
      · (intro w hSw; have hSx := HFA.out _ hSw; (try dsimp only at hSx); clear hSw; go_simp) <;> (with_reducible rfl)
      simp only [Act.put, List.setIfInBounds_toArray, List.set_cons_zero, List.set_cons_succ]
      refine walkO_done ?_
      clear HOPS OPS
      go_wp2_with fail
      go_ret
      exact ⟨rfl, fb.then0 g1⟩
  · rw [hx] at hb hnl
    have hx0 := hp x (by rw [hx]; simp)
    have hn : nextH s = x.2 := by unfold nextH; rw [hx]
    rw [hn] at HNX
    obtain ⟨xd, xa⟩ := x
    dsimp only at hx0 HNX
    obtain ⟨c, xd', rfl⟩ : ∃ c xd', xd = c :: xd' := by
      rcases xd with _ | ⟨c, xd'⟩
      · simp at hx0
      · exact ⟨c, xd', rfl⟩
    have hl0 : 0 < nl := by rw [hnl]; simp [flatS]
    obtain ⟨bb, bo, e, hbl, _, hcell⟩ := hb (by rw [← hnl]; exact hl0)
    subst e
    have hc1 := (hcell 0 (c, xa) (by simp [flatS])).2
    simp only [Nat.zero_mul, Nat.add_zero] at hc1
    have e1 : wb.cell? ⟨bb, bo + 1, none⟩ = some (.int .u64 xa) := (World.cell?_of_block (w := w) (fb.block bb hbl (by simp))).trans hc1
    have hl1 : (0 : Int) < nl := by omega
    clear hn hnl h hb hcell hc1 hx hp hx0
    go_enter Try.func27, Try.ntmps27
    go_wp2_with fail
    refine wp_region_order [(0, true), (1, true), (2, true), (3, true), (5, true), (6, true), (7, true), (4, false), (8, true), (9, true), (10, true), (11, true), (13, true), (12, false), (14, true), (15, true), (16, true)] (fun w' => Fr [] wb w') (by kernel_rfl) (by kernel_rfl) fd ?_
    intro OPS HOPS
    have hops := HOPS.out
    try simp only [List.append_eq, List.cons_append, List.nil_append] at hops
    replace HOPS := Lib.hid hops
    clear hops
    refine walkO_take (o := _) (v := ?_) (by rw [HOPS.out]; simp only [List.getElem?_toArray, List.getElem?_cons_succ, List.getElem?_cons_zero]; exact rfl) (Or.inl ⟨rfl, ?_⟩) ?_
    rotate_left
    · (intro w hSw; have hSx := HFA.out _ hSw; (try dsimp only at hSx); clear hSw; go_simp) <;> (with_reducible rfl)
    simp only [Act.put, List.setIfInBounds_toArray, List.set_cons_zero, List.set_cons_succ]
    refine walkO_take (o := _) (v := ?_) (by rw [HOPS.out]; simp only [List.getElem?_toArray, List.getElem?_cons_succ, List.getElem?_cons_zero]; exact rfl) (Or.inl ⟨rfl, ?_⟩) ?_
    rotate_left
    · (intro w hSw; have hSx := HFA.out _ hSw; (try dsimp only at hSx); clear hSw; go_simp) <;> (with_reducible rfl)
    simp only [Act.put, List.setIfInBounds_toArray, List.set_cons_zero, List.set_cons_succ]
    refine walkO_take (o := _) (v := ?_) (by rw [HOPS.out]; simp only [List.getElem?_toArray, List.getElem?_cons_succ, List.getElem?_cons_zero]; exact rfl) (Or.inl ⟨rfl, ?_⟩) ?_
    rotate_left
    · (intro w hSw; have hSx := HFA.out _ hSw; (try dsimp only at hSx); clear hSw; go_simp) <;> (with_reducible rfl)
    simp only [Act.put, List.setIfInBounds_toArray, List.set_cons_zero, List.set_cons_succ]
    refine walkO_take (o := _) (v := ?_) (by rw [HOPS.out]; simp only [List.getElem?_toArray, List.getElem?_cons_succ, List.getElem?_cons_zero]; exact rfl) (Or.inl ⟨by rw [HOPS.out]; rfl, ?_⟩) ?_
    rotate_left
    · (intro w hSw; have hSx := HFA.out _ hSw; (try dsimp only at hSx); clear hSw; go_simp) <;> (with_reducible rfl)
    simp only [Act.put, List.setIfInBounds_toArray, List.set_cons_zero, List.set_cons_succ]
    refine walkO_take (o := _) (v := ?_) (by rw [HOPS.out]; simp only [List.getElem?_toArray, List.getElem?_cons_succ, List.getElem?_cons_zero]; exact rfl) (Or.inl ⟨by rw [HOPS.out]; rfl, ?_⟩) ?_
    rotate_left
    · (intro w hSw; have hSx := HFA.out _ hSw; (try dsimp only at hSx); clear hSw; go_simp) <;> (with_reducible rfl)
    simp only [Act.put, List.setIfInBounds_toArray, List.set_cons_zero, List.set_cons_succ]
    refine walkO_take (o := _) (v := ?_) (by rw [HOPS.out]; simp only [List.getElem?_toArray, List.getElem?_cons_succ, List.getElem?_cons_zero]; exact rfl) (Or.inl ⟨by rw [HOPS.out]; rfl, ?_⟩) ?_
    rotate_left
    · (intro w hSw; have hSx := HFA.out _ hSw; (try dsimp only at hSx); clear hSw; go_simp) <;> (with_reducible rfl)
    simp only [Act.put, List.setIfInBounds_toArray, List.set_cons_zero, List.set_cons_succ]
    refine walkO_take (o := _) (v := ?_) (by rw [HOPS.out]; simp only [List.getElem?_toArray, List.getElem?_cons_succ, List.getElem?_cons_zero]; exact rfl) (Or.inl ⟨by rw [HOPS.out]; rfl, ?_⟩) ?_
    rotate_left
    · (intro w hSw; have hSx := HFA.out _ hSw; (try dsimp only at hSx); clear hSw; go_simp) <;> (with_reducible rfl)
    simp only [Act.put, List.setIfInBounds_toArray, List.set_cons_zero, List.set_cons_succ]
    refine walkO_call (o := _) (by rw [HOPS.out]; simp only [List.getElem?_toArray, List.getElem?_cons_succ, List.getElem?_cons_zero]; exact rfl) (fun K HK => ?_)
    refine step_call (by rw [HOPS.out]; rfl) 32 #[(.tmp 22)] #[57] rfl HEL.out #[.pointer (some ⟨b, 0, none⟩)] (by simp [Act.eval]) (HLEN.out) ?_
    rintro e w1 ⟨rfl, f1⟩
    have g1 : Fr [] wb w1 := fd.then0 f1
    refine ⟨_, rfl, ?_⟩
    refine HK.out (fun w' => Fr [] wb w') _ _ (fun _ h => h) (g1) ?_
    clear HK K
    simp only [Act.put, List.setIfInBounds_toArray, List.set_cons_zero, List.set_cons_succ]
    refine walkO_take (o := _) (v := ?_) (by rw [HOPS.out]; simp only [List.getElem?_toArray, List.getElem?_cons_succ, List.getElem?_cons_zero]; exact rfl) (Or.inl ⟨by rw [HOPS.out]; rfl, ?_⟩) ?_
    rotate_left
    · (intro w hSw; have hSx := HFA.out _ hSw; (try dsimp only at hSx); clear hSw; go_simp) <;> (with_reducible rfl)
    simp only [Act.put, List.setIfInBounds_toArray, List.set_cons_zero, List.set_cons_succ]
    refine walkO_take (o := _) (v := ?_) (by rw [HOPS.out]; simp only [List.getElem?_toArray, List.getElem?_cons_succ, List.getElem?_cons_zero]; exact rfl) (Or.inl ⟨rfl, ?_⟩) ?_
    rotate_left
    · (intro w hSw; have hSx := HFA.out _ hSw; (try dsimp only at hSx); clear hSw; go_simp) <;> (with_reducible rfl)
    simp only [Act.put, List.setIfInBounds_toArray, List.set_cons_zero, List.set_cons_succ]
    refine walkO_take (o := _) (v := ?_) (by rw [HOPS.out]; simp only [List.getElem?_toArray, List.getElem?_cons_succ, List.getElem?_cons_zero]; exact rfl) (Or.inl ⟨rfl, ?_⟩) ?_
    rotate_left
    · (intro w hSw; have hSx := HFA.out _ hSw; (try dsimp only at hSx); clear hSw; go_simp) <;> (with_reducible rfl)
    simp only [Act.put, List.setIfInBounds_toArray, List.set_cons_zero, List.set_cons_succ]
    refine walkO_take (o := _) (v := ?_) (by rw [HOPS.out]; simp only [List.getElem?_toArray, List.getElem?_cons_succ, List.getElem?_cons_zero]; exact rfl) (Or.inl ⟨by rw [HOPS.out]; rfl, ?_⟩) ?_
    rotate_left
    · (intro w hSw; have hSx := HFA.out _ hSw; (try dsimp only at hSx); clear hSw; go_simp) <;> (with_reducible rfl)
    simp only [Act.put, List.setIfInBounds_toArray, List.set_cons_zero, List.set_cons_succ]
    refine walkO_take (o := _) (v := ?_) (by rw [HOPS.out]; simp only [List.getElem?_toArray, List.getElem?_cons_succ, List.getElem?_cons_zero]; exact rfl) (Or.inl ⟨by rw [HOPS.out]; rfl, ?_⟩) ?_
    rotate_left
    · (intro w hSw; have hSx := HFA.out _ hSw; (try dsimp only at hSx); clear hSw; go_simp) <;> (with_reducible rfl)
    simp only [Act.put, List.setIfInBounds_toArray, List.set_cons_zero, List.set_cons_succ]
    refine walkO_call (o := _) (by rw [HOPS.out]; simp only [List.getElem?_toArray, List.getElem?_cons_succ, List.getElem?_cons_zero]; exact rfl) (fun K HK => ?_)
    refine step_call (by rw [HOPS.out]; rfl) 34 #[(.tmp 30)] #[57] rfl HEN.out #[.pointer (some ⟨b, 0, none⟩)] (by simp [Act.eval]) (HNX.out _ g1) ?_
    rintro e w2 ⟨rfl, rfl⟩
    refine ⟨_, rfl, ?_⟩
    refine HK.out (fun w' => Fr [] wb w') _ _ (fun _ h => h) (g1) ?_
    clear HK K
    simp only [Act.put, List.setIfInBounds_toArray, List.set_cons_zero, List.set_cons_succ]
    refine walkO_take (o := _) (v := ?_) (by rw [HOPS.out]; simp only [List.getElem?_toArray, List.getElem?_cons_succ, List.getElem?_cons_zero]; exact rfl) (Or.inl ⟨by rw [HOPS.out]; rfl, ?_⟩) ?_
    rotate_left
    · (intro w hSw; have hSx := HFA.out _ hSw; (try dsimp only at hSx); clear hSw; go_simp) <;> (with_reducible rfl)
    simp only [Act.put, List.setIfInBounds_toArray, List.set_cons_zero, List.set_cons_succ]
    refine walkO_take (o := _) (v := ?_) (by rw [HOPS.out]; simp only [List.getElem?_toArray, List.getElem?_cons_succ, List.getElem?_cons_zero]; exact rfl) (Or.inl ⟨rfl, ?_⟩) ?_
    rotate_left
    · (intro w hSw; have hSx := HFA.out _ hSw; (try dsimp only at hSx); clear hSw; go_simp) <;> (with_reducible rfl)
    simp only [Act.put, List.setIfInBounds_toArray, List.set_cons_zero, List.set_cons_succ]
    refine walkO_take (o := _) (v := ?_) (by rw [HOPS.out]; simp only [List.getElem?_toArray, List.getElem?_cons_succ, List.getElem?_cons_zero]; exact rfl) (Or.inl ⟨rfl, ?_⟩) ?_
    rotate_left
    · (intro w hSw; have hSx := HFA.out _ hSw; (try dsimp only at hSx); clear hSw; go_simp) <;> (with_reducible rfl)
    simp only [Act.put, List.setIfInBounds_toArray, List.set_cons_zero, List.set_cons_succ]
    refine walkO_done ?_
    clear HOPS OPS
    go_wp2_with fail
    go_ret
    exact ⟨rfl, fb.then0 g1⟩

end Go.Proofs.Ytdndabklcenndaa
