/-
  Package shaper: the contracts of New, arrival, Close, Ready.
-/
import Derived.Test.YtdndabklcenndaaShAt
namespace Go.Proofs.Ytdndabklcenndaa
open Go.RowKit
set_option maxRecDepth 100000

theorem inv_reserved {r p u l t now n : Int} (hi : BkInv r p u l t) (hn : 0 ≤ n) (ht : t ≤ now) (hnow : now < 18446744073709551615) (hv : -1000000 * p ≤ lvl r p u l t now - n * p) : BkInv r p u (lvl r p u l t now - n * p) now := by
  obtain ⟨r1, r2, p1, p2, u1, u2, l1, l2, t1, t2⟩ := hi
  obtain ⟨b1, b2⟩ := lvl_bd ⟨r1, r2, p1, p2, u1, u2, l1, l2, t1, t2⟩ ht
  have h := Int.mul_nonneg hn (show 0 ≤ p by omega)
  exact ⟨r1, r2, p1, p2, u1, u2, by omega, by omega, by omega, hnow⟩
theorem plusT_bd {t n : Int} (h0 : 0 ≤ t) (h2 : 0 ≤ n) : 0 ≤ plusT t n ∧ plusT t n ≤ 18446744073709551615 := by
  unfold plusT
  split <;> omega

def ValS (r p u lat lim now : Int) : Prop := Val r p u now ∧ 0 ≤ lat ∧ lat ≤ 1000000 ∧ 1 ≤ lim ∧ lim ≤ 65536
def newH (r p u lat lim now : Int) : SH := ⟨r, p, u, u * p, now, lat, lim, [], false, 0, now⟩
theorem newH_ok {r p u lat lim now : Int} (h : ValS r p u lat lim now) (h0 : 0 ≤ now) (h1 : now ≤ 18446744073709551615) : SHOk (newH r p u lat lim now) := by
  obtain ⟨hv, a, b, c, d⟩ := h
  have hn := hv.2.2.2
  exact ⟨hv.inv h0 h1, a, b, c, d, by simp only [newH, totS]; omega, h0, by simp only [newH]; omega, Int.le_refl _, by simp [newH], by simp [newH], Int.le_refl _, by simp [newH]⟩

theorem sh_new_ok {r p u lat lim now : Int} (w : World) (h : ValS r p u lat lim now) (h0 : 0 ≤ now) (h1 : now ≤ 18446744073709551615) :
    Calls Try.prog 29 #[.int .i64 r, .int .i64 p, .int .i64 u, .int .i64 lat, .int .i64 lim, .int .u64 now] w fun e w' =>
      ∃ b, e = .returned (.tuple #[.pointer (some ⟨b, 0, none⟩), .int .i64 0]) ∧ Fr [] w w' ∧ w.heap.size < b ∧ Shp w' [b, w.heap.size] b w.heap.size (newH r p u lat lim now) := by
  have hok := newH_ok h h0 h1
  obtain ⟨hv, a1, a2, a3, a4⟩ := h
  have HB := Lib.hid (new_ok w hv)
  clear hv
  go_enter Try.func29, Try.ntmps29
  go_wp2_with fail
  refine HB.out.mono ?_
  rintro e w1 ⟨rfl, f1, k1⟩
  have hlt := k1.lt
  go_wp2_with fail
  go_ret2
  exact ⟨w1.heap.size, rfl, f1.alloc _, hlt, ⟨_, newA rfl, .inl ⟨rfl, rfl⟩⟩, keepA k1, hok, by simp, by simp, by omega, by simp; omega⟩

theorem sh_new_no {r p u lat lim now : Int} (w : World) (h : ¬ ValS r p u lat lim now) :
    Calls Try.prog 29 #[.int .i64 r, .int .i64 p, .int .i64 u, .int .i64 lat, .int .i64 lim, .int .u64 now] w fun e w' =>
      e = .returned (.tuple #[.pointer none, .int .i64 2]) ∧ Fr [] w w' := by
  by_cases hv : Val r p u now
  · have HB := Lib.hid (new_ok w hv)
    have hx : lat < 0 ∨ (0 ≤ lat ∧ 1000000 < lat) ∨ (0 ≤ lat ∧ lat ≤ 1000000 ∧ lim < 1) ∨ (0 ≤ lat ∧ lat ≤ 1000000 ∧ 1 ≤ lim ∧ 65536 < lim) := by
      apply Classical.byContradiction
      intro hc
      exact h ⟨hv, by omega⟩
    clear hv h
    rcases hx with hx | ⟨hx, hy⟩ | ⟨hx, hy, hz⟩ | ⟨hx, hy, hz, hu⟩
    all_goals
      go_enter Try.func29, Try.ntmps29
      go_wp2_with fail
      refine HB.out.mono ?_
      rintro e w1 ⟨rfl, f1, k1⟩
      clear k1
      go_wp2_with fail
      go_ret2
      exact ⟨rfl, f1⟩
  · have HB := Lib.hid (new_no w hv)
    clear hv h
    go_enter Try.func29, Try.ntmps29
    go_wp2_with fail
    refine HB.out.mono ?_
    rintro e w1 ⟨rfl, rfl⟩
    go_wp2_with fail
    go_ret2
    exact ⟨rfl, Fr.refl _ _⟩

/-- The bucket's level after some tokens are reserved; the time of arrival. -/
def lvH (s : SH) (now n : Int) : Int := lvl s.r s.p s.u s.l s.t now - n * s.p
def atH (s : SH) (now n : Int) : Int := plusT (plusT now (tk s.r (max 0 (-(lvH s now n))))) s.lat
/-- May so many tokens be reserved? -/
def roomH (s : SH) (now n : Int) : Bool := decide (-1000000 * s.p ≤ lvH s now n)
theorem atH_bd {s : SH} (h : SHOk s) (now n : Int) (h0 : 0 ≤ now) : 0 ≤ atH s now n ∧ atH s now n ≤ 18446744073709551615 :=
  plusT_bd (plusT_bd h0 (tk_nonneg h.inv.r1 (by omega))).1 h.lat0

section
variable {w w' : World} {L : List Nat} {b k : Nat} {s : SH}
theorem sh_arr_yes {v : Value} (hr : ShRow w b k s v) (hb : BkAt w k s.r s.p s.u s.l s.t) (ho : SHOk s) (hne : b ≠ k) {now n : Int} (hn : 0 ≤ n) (hn2 : n ≤ 1000000) (ht : s.t ≤ now) (h0 : 0 ≤ now) (hnow : now < 18446744073709551615) (hv : roomH s now n = true) :
    Calls Try.prog 55 #[.pointer (some ⟨b, 0, none⟩), .int .u64 now, .int .i64 n] w fun e w' =>
      e = .returned (.tuple #[.int .u64 (atH s now n), .int .i64 0]) ∧ Fr [k] w w' ∧ BkAt w' k s.r s.p s.u (lvH s now n) now := by
  obtain ⟨c0, c1, _⟩ := hr.cells
  have HR := Lib.hid (reserve_yes hb ho.inv now n hn hn2 ht hnow (by have hd := of_decide_eq_true hv; unfold lvH at hd; exact hd))
  have hp := plusT_bd h0 (tk_nonneg (n := max 0 (-(lvH s now n))) ho.inv.r1 (by omega))
  obtain ⟨T1, hT1⟩ : ∃ T, plusT now (tk s.r (max 0 (-(lvH s now n)))) = T := ⟨_, rfl⟩
  rw [hT1] at hp
  have HA := Lib.hid fun w1 => add_any T1 s.lat w1 hp.1 hp.2 ho.lat0 (by have := ho.lat1; omega)
  have HC : Hid (∀ w', Fr [k] w w' → w'.cell? ⟨b, 1, none⟩ = some (.int .u64 s.lat)) := Lib.hid fun w' f => cell_of (f.keep hr (by simp; omega))
  have HL : Hid (lvl s.r s.p s.u s.l s.t now - n * s.p = lvH s now n) := Lib.hid rfl
  rw [show atH s now n = plusT T1 s.lat by rw [← hT1]; rfl]
  replace hT1 := Lib.hid hT1
  clear hr hb hv hp
  go_enter Try.func55, Try.ntmps55
  go_wp2_with fail
  refine HR.out.mono ?_
  rintro e w1 ⟨rfl, f1, k1⟩
  have d1 := HC.out _ f1
  rw [HL.out] at k1 ⊢
  rw [hT1.out]
  clear HR c0 c1
  go_wp2_with fail
  refine (HA.out _).mono ?_
  rintro e w' ⟨rfl, rfl⟩
  go_wp2_with fail
  go_ret2
  exact ⟨rfl, f1, k1⟩
theorem sh_arr_no {v : Value} (hr : ShRow w b k s v) (hb : BkAt w k s.r s.p s.u s.l s.t) (ho : SHOk s) {now n : Int} (hn : 0 ≤ n) (hn2 : n ≤ 1000000) (ht : s.t ≤ now) (hnow : now < 18446744073709551615) (hv : roomH s now n = false) :
    Calls Try.prog 55 #[.pointer (some ⟨b, 0, none⟩), .int .u64 now, .int .i64 n] w fun e w' =>
      e = .returned (.tuple #[.int .u64 0, .int .i64 7]) ∧ Fr [] w w' := by
  obtain ⟨c0, c1, _⟩ := hr.cells
  have HR := Lib.hid (reserve_no hb ho.inv now n hn hn2 ht hnow (by have hd := of_decide_eq_false hv; unfold lvH at hd; omega))
  clear hr hb hv
  go_enter Try.func55, Try.ntmps55
  go_wp2_with fail
  refine HR.out.mono ?_
  rintro e w1 ⟨rfl, f1⟩
  clear HR
  go_wp2_with fail
  go_ret2
  exact ⟨rfl, f1⟩

theorem mayE_0 {now : Int} {right : Bool} (h : mayE s now right = 0) : right = true ∧ s.last ≤ now ∧ now ≠ 18446744073709551615 := by
  unfold mayE at h
  split at h
  · simp at h
  · rename_i hr
    split at h
    · simp at h
    · rename_i hx
      exact ⟨by simpa using hr, by omega, by omega⟩

theorem sh_close_nil (w : World) (now : Int) : Calls Try.prog 35 #[.pointer none, .int .u64 now] w fun e w' => e = .returned (.int .i64 1) ∧ w = w' := by
  go_enter Try.func35, Try.ntmps35
  go_wp2_with fail
  refine (sh_may_nil _ _ _).mono ?_
  rintro e w' ⟨rfl, rfl⟩
  go_wp2_with fail
  go_ret
  exact ⟨rfl, rfl⟩
theorem sh_close_zero {w : World} {b : Nat} (h : w.cell? ⟨b, 0, none⟩ = some (.pointer none)) (now : Int) : Calls Try.prog 35 #[.pointer (some ⟨b, 0, none⟩), .int .u64 now] w fun e w' => e = .returned (.int .i64 1) ∧ w = w' := by
  go_enter Try.func35, Try.ntmps35
  go_wp2_with fail
  refine (sh_may_zero h _ _).mono ?_
  rintro e w' ⟨rfl, rfl⟩
  go_wp2_with fail
  go_ret
  exact ⟨rfl, rfl⟩
def closeE41 (s : SH) (now : Int) : Int := if mayE s now true ≠ 0 then mayE s now true else if s.closed = true then 14 else if roomH s now 0 = false then 7 else 0
def closeH (s : SH) (now : Int) : SH := if closeE41 s now ≠ 0 then s else { s with l := lvH s now 0, t := now, closed := true, fin := atH s now 0, last := now }
theorem sh_close (h : Shp w L b k s) {now : Int} (h0 : 0 ≤ now) (h1 : now ≤ 18446744073709551615) :
    Calls Try.prog 35 #[.pointer (some ⟨b, 0, none⟩), .int .u64 now] w fun e w' => e = .returned (.int .i64 (closeE41 s now)) ∧ Fr [b, k] w w' ∧ Shp w' L b k (closeH s now) := by
  obtain ⟨v, hr, hs⟩ := h.ex
  obtain ⟨c0, c1, c2, c3, c4, c5, c6⟩ := hr.cells
  have f3 := hr.free
  have HM := Lib.hid (sh_may hr now true)
  have hlt := lt_of_heap hr
  by_cases hm : mayE s now true = 0
  · obtain ⟨_, m1, m2⟩ := mayE_0 hm
    have hnow : now < 18446744073709551615 := by omega
    rcases hc : s.closed with _ | _
    · rw [hc] at c4
      rcases hv : roomH s now 0 with _ | _
      · have e1 : closeE41 s now = 7 := by unfold closeE41; rw [if_neg (by simp [hm]), if_neg (by simp [hc]), if_pos hv]
        have e2 : closeH s now = s := by unfold closeH; rw [if_pos (by rw [e1]; decide)]
        rw [e1, e2]
        rw [hm] at HM
        have HA := Lib.hid (sh_arr_no hr h.bk h.ok (n := 0) (by omega) (by omega) (by have := h.ok.tl; omega) hnow hv)
        have HSH := Lib.hid h
        clear hm hc hv e1 e2 hs hr h f3
        go_enter Try.func35, Try.ntmps35
        go_wp2_with fail
        refine HM.out.mono ?_
        rintro e w' ⟨rfl, rfl⟩
        go_wp2_with fail
        refine HA.out.mono ?_
        rintro e w1 ⟨rfl, f1⟩
        go_wp2_with fail
        go_ret
        exact ⟨rfl, f1.mono (by simp), HSH.out.keep0 f1⟩
      · have e1 : closeE41 s now = 0 := by unfold closeE41; rw [if_neg (by simp [hm]), if_neg (by simp [hc]), if_neg (by simp [hv])]
        have e2 : closeH s now = { s with l := lvH s now 0, t := now, closed := true, fin := atH s now 0, last := now } := by unfold closeH; rw [if_neg (by rw [e1]; simp)]
        have hv' : -1000000 * s.p ≤ lvl s.r s.p s.u s.l s.t now - 0 * s.p := by simpa [roomH, lvH] using hv
        have hok : SHOk { s with l := lvH s now 0, t := now, closed := true, fin := atH s now 0, last := now } := by
          obtain ⟨a1, a2, a3, a4, a5, a6, a7, a8, a9, a10, a11, a12, a13⟩ := h.ok
          have hat := atH_bd h.ok now 0 h0
          exact ⟨inv_reserved a1 (by omega) (by omega) hnow hv', a2, a3, a4, a5, a6, h0, hnow, Int.le_refl _, a10, a11, hat.1, hat.2⟩
        rw [e1, e2]
        rw [hm] at HM
        have HA := Lib.hid (sh_arr_yes hr h.bk h.ok h.ne (n := 0) (by omega) (by omega) (by have := h.ok.tl; omega) h0 hnow hv)
        have HSH := Lib.hid h
        have HRW := Lib.hid hr
        have HSG := Lib.hid hs
        have hne := h.ne
        generalize atH s now 0 = T at *
        generalize lvH s now 0 = LV at *
        have HC : Hid (∀ w', Fr [k] w w' → w'.cell? ⟨b, 4, none⟩ = some (.bool false) ∧ w'.cell? ⟨b, 5, none⟩ = some (.int .u64 s.fin) ∧ w'.cell? ⟨b, 6, none⟩ = some (.int .u64 s.last) ∧ w'.frozen? ⟨b, 4, none⟩ = false ∧ w'.frozen? ⟨b, 5, none⟩ = false ∧ w'.frozen? ⟨b, 6, none⟩ = false) := Lib.hid fun w' f => by
          have q := f.keep HRW.out (by simp; omega)
          exact ⟨by rw [cell_of q, ← hc]; rfl, cell_of q, cell_of q, free_of q, free_of q, free_of q⟩
        clear hm hc hv e1 e2 hs hr h f3 hv' c1 c2 c3 c5 c6
        go_enter Try.func35, Try.ntmps35
        go_wp2_with fail
        refine HM.out.mono ?_
        rintro e w' ⟨rfl, rfl⟩
        go_wp2_with fail
        refine HA.out.mono ?_
        rintro e w1 ⟨rfl, f1, k1⟩
        obtain ⟨d4, d5, d6, g4, g5, g6⟩ := HC.out _ f1
        have K1 := Lib.hid k1
        have F1 := Lib.hid f1
        clear HA HM c0 c4 k1 f1
        go_wp2_with fail
        go_ret
        have q1 := F1.out.keep HRW.out (by simp; omega)
        have q2 := heap_setCell_eq (i := 6) (u := .int .u64 now) (heap_setCell_eq (i := 5) (u := .int .u64 T) (heap_setCell_eq (i := 4) (u := .bool true) q1))
        have f2 : Fr [b] w1 (((w1.setCell ⟨b, 4, none⟩ (.bool true)).setCell ⟨b, 5, none⟩ (.int .u64 T)).setCell ⟨b, 6, none⟩ (.int .u64 now)) := (((Fr.refl [b] w1).setCell (.inl (by simp)) _).setCell (.inl (by simp)) _).setCell (.inl (by simp)) _
        have f12 := F1.out.trans f2 (U := [b, k]) (by simp) (by simp)
        refine ⟨rfl, f12, ⟨⟨v, by unfold ShRow; simpa using q2, HSG.out.keep f12 (by simp)⟩, f2.keep K1.out (by simp; omega), hok, HSH.out.hb, HSH.out.hk, hne, fun y hy => Nat.lt_of_lt_of_le (HSH.out.old y hy) f12.size⟩⟩
    · have e1 : closeE41 s now = 14 := by unfold closeE41; rw [if_neg (by simp [hm]), if_pos hc]
      have e2 : closeH s now = s := by unfold closeH; rw [if_pos (by rw [e1]; decide)]
      rw [e1, e2]
      rw [hm] at HM
      rw [hc] at c4
      have HSH := Lib.hid h
      clear hm hc e1 e2 hs hr h f3
      go_enter Try.func35, Try.ntmps35
      go_wp2_with fail
      refine HM.out.mono ?_
      rintro e w' ⟨rfl, rfl⟩
      go_wp2_with fail
      go_ret
      exact ⟨rfl, Fr.refl _ _, HSH.out⟩
  · have e1 : closeE41 s now = mayE s now true := by unfold closeE41; rw [if_pos hm]
    have e2 : closeH s now = s := by unfold closeH; rw [if_pos (by rw [e1]; exact hm)]
    rw [e1, e2]
    have HSH := Lib.hid h
    have hm' : (mayE s now true != 0) = true := by simpa using hm
    generalize mayE s now true = E at *
    clear hm e1 e2 hs hr h f3
    go_enter Try.func35, Try.ntmps35
    go_wp2_with fail
    refine HM.out.mono ?_
    rintro e w' ⟨rfl, rfl⟩
    go_wp2_with fail
    go_ret
    exact ⟨rfl, Fr.refl _ _, HSH.out⟩

/-- How many bytes have arrived. -/
def readyN (now : Int) : List (List UInt8 × Int) → Nat
  | [] => 0
  | x :: xs => (if x.2 ≤ now then x.1.length else 0) + readyN now xs
theorem readyN_append (now : Int) (a c : List (List UInt8 × Int)) : readyN now (a ++ c) = readyN now a + readyN now c := by
  induction a with
  | nil => simp [readyN]
  | cons x a ih => simp [readyN, ih]; omega
theorem readyN_le (now : Int) (a : List (List UInt8 × Int)) : readyN now a ≤ totS a := by
  induction a with
  | nil => simp [readyN]
  | cons x a ih => simp only [readyN, totS]; split <;> omega
theorem readyN_take_succ (now : Int) {xs : List (List UInt8 × Int)} {k : Nat} (h : k < xs.length) : readyN now (xs.take (k + 1)) = readyN now (xs.take k) + (if xs[k].2 ≤ now then xs[k].1.length else 0) := by
  rw [List.take_succ_eq_append_getElem h, readyN_append]
  simp [readyN]
theorem sh_ready_nil (w : World) (now : Int) : Calls Try.prog 37 #[.pointer none, .int .u64 now] w fun e w' => e = .returned (.tuple #[.int .i64 0, .int .i64 1]) ∧ w = w' := by
  go_enter Try.func37, Try.ntmps37
  go_wp2_with fail
  refine (sh_may_nil _ _ _).mono ?_
  rintro e w' ⟨rfl, rfl⟩
  go_wp2_with fail
  go_ret2
  exact ⟨rfl, rfl⟩
theorem sh_ready_zero {w : World} {b : Nat} (h : w.cell? ⟨b, 0, none⟩ = some (.pointer none)) (now : Int) : Calls Try.prog 37 #[.pointer (some ⟨b, 0, none⟩), .int .u64 now] w fun e w' => e = .returned (.tuple #[.int .i64 0, .int .i64 1]) ∧ w = w' := by
  go_enter Try.func37, Try.ntmps37
  go_wp2_with fail
  refine (sh_may_zero h _ _).mono ?_
  rintro e w' ⟨rfl, rfl⟩
  go_wp2_with fail
  go_ret2
  exact ⟨rfl, rfl⟩
theorem sh_ready_bad (h : Shp w L b k s) {now : Int} (hm : mayE s now true ≠ 0) :
    Calls Try.prog 37 #[.pointer (some ⟨b, 0, none⟩), .int .u64 now] w fun e w' => e = .returned (.tuple #[.int .i64 0, .int .i64 (mayE s now true)]) ∧ w = w' := by
  obtain ⟨v, hr, hs⟩ := h.ex
  have HM := Lib.hid (sh_may hr now true)
  have hm' : (mayE s now true != 0) = true := by simpa using hm
  generalize mayE s now true = E at *
  clear hm hs hr h
  go_enter Try.func37, Try.ntmps37
  go_wp2_with fail
  refine HM.out.mono ?_
  rintro e w' ⟨rfl, rfl⟩
  go_wp2_with fail
  go_ret2
  exact ⟨rfl, rfl⟩
theorem totS_len : ∀ xs : List (List UInt8 × Int), (∀ x ∈ xs, 0 < x.1.length) → xs.length ≤ totS xs := by
  intro xs
  induction xs with
  | nil => intro _; simp
  | cons x xs ih => intro hx; have h1 := hx x (by simp); have h2 := ih (fun y hy => hx y (by simp [hy])); simp [totS]; omega
theorem sh_ready (h : Shp w L b k s) {now : Int} (hm : mayE s now true = 0) :
    Calls Try.prog 37 #[.pointer (some ⟨b, 0, none⟩), .int .u64 now] w fun e w' => e = .returned (.tuple #[.int .i64 (readyN now s.segs), .int .i64 0]) ∧ Fr [] w w' := by
  obtain ⟨v, hr, hs⟩ := h.ex
  obtain ⟨c0, c1, c2, c3, c4, c5, c6⟩ := hr.cells
  have HM := Lib.hid (sh_may hr now true)
  rw [hm] at HM
  have htot : totS s.segs ≤ 65536 := by have := h.ok.tot; have := h.ok.lim1; omega
  have HS := Lib.hid hs
  obtain ⟨a, cap, e⟩ := hs.form
  subst e
  have hlen : s.segs.length ≤ 65536 := by have := totS_len _ h.ok.pos; omega
  generalize s.segs = xs at *
  clear hs hr h hm
  go_enter Try.func37, Try.ntmps37
  go_wp2_with fail
  refine HM.out.mono ?_
  rintro e w' ⟨rfl, rfl⟩
  go_wp2_with fail
  go_loopw [7, 21] (fun n i wr => ∃ q : Nat, q ≤ xs.length ∧ i = .int .i64 q ∧ n = .int .i64 (readyN now (xs.take q)) ∧ Fr [] w wr) (fun _ i _ => xs.length + 1 - (intOf i).toNat)
  case atStart => exact ⟨0, by omega, rfl, rfl, Fr.refl _ _⟩
  case round =>
    obtain ⟨q, hq, rfl, rfl, f⟩ := hrel
    rename World => wr
    by_cases hlt : q < xs.length
    · obtain ⟨g, o, cap', db, dp, dc, ev, hc, _, _, _, hcap⟩ := HS.out.at_ hlt
      injection ev with ev1 ev2 ev3
      subst ev1
      obtain ⟨i0, i1⟩ := hc wr f
      have hg1 : (q : Int) < xs.length := by omega
      have ht1 := readyN_take_succ now hlt
      have ht2 := readyN_le now (xs.take (q + 1))
      have ht4 := totS_take_le xs (q + 1)
      have HT := Lib.hid ht1
      clear hc ht1
      generalize xs[q] = x at *
      obtain ⟨xd, xa⟩ := x
      dsimp only at i0 i1 HT
      by_cases hle : xa ≤ now
      · rw [if_pos hle] at HT
        have ht3 : readyN now (xs.take q) + xd.length ≤ 65536 := by have := HT.out; omega
        go_wp2_with fail
        go_roundw
        case rel => exact ⟨q + 1, by omega, by go_num, by rw [HT.out]; go_num, f.alloc _⟩
        case measure => simp [intOf]; omega
      · rw [if_neg hle, Nat.add_zero] at HT
        have hle' : now < xa := by omega
        clear hle
        go_wp2_with fail
        go_roundw
        case rel => exact ⟨q + 1, by omega, by go_num, by rw [HT.out]; simp, f.alloc _⟩
        case measure => simp [intOf]; omega
    · obtain rfl : q = xs.length := by omega
      have hlt' : ¬ ((xs.length : Int) < xs.length) := by omega
      rw [List.take_length]
      go_wp2_with fail
      go_ret2
      exact ⟨rfl, f⟩
end
end Go.Proofs.Ytdndabklcenndaa
