/-
  Package shaper: Receive.
-/
import Derived.Test.YtdndabklcenndaaShMath
import Derived.Test.YtdndabklcenndaaRegionX
namespace Go.Proofs.Ytdndabklcenndaa
open Go.RowKit
set_option maxRecDepth 100000

theorem run_cut_seg {a : Option Addr} {plen pcap l : Nat} (hl : l ≤ plen) (w : World) :
    (Instr.slice 83 (.slice a plen pcap) (some (.int .i64 l)) none none).run Try.prog w = .ok (.slice (if pcap = l then a else a.map (·.add (l * 2))) (plen - l) (pcap - l)) w := by
  have hs : ∀ w, (sizeOf (Try.prog.elem 83)).run Try.prog w = .ok 2 w := fun _ => by kernel_rfl
  have h1 := run_slice_l (P := Try.prog) (w := w) (t := 83) (a := a) (len := plen) (cap := pcap) (by kernel_rfl) .i64 (l : Int) (by omega) (by omega)
  rw [h1, hs]
  simp [Result.andThen, sliced]

theorem run_cut_seg1 {g o n cap : Nat} (w : World) :
    (Instr.slice 83 (.slice (some ⟨g, o, none⟩) (n + 1) cap) (some (.int .i64 1)) none none).run Try.prog w = .ok (.slice (if cap = 1 then some ⟨g, o, none⟩ else some ⟨g, o + 2, none⟩) n (cap - 1)) w := by
  have h := run_cut_seg (a := some ⟨g, o, none⟩) (plen := n + 1) (pcap := cap) (l := 1) (by omega) w
  simp only [Option.map_some, addr_add, Nat.one_mul, Nat.add_sub_cancel] at h
  exact h
theorem cutp_ne {b o m l : Nat} (h : m ≠ l) : cutp (some ⟨b, o, none⟩) m l = some ⟨b, o + l, none⟩ := by
  unfold cutp
  rw [if_neg h]
  simp [addr_add]

def slen : Value → Nat
  | .slice _ n _ => n
  | _ => 0

section
variable {w w' : World} {L : List Nat} {b k : Nat} {s : SH}
theorem sh_recv_nil (w : World) (now most : Int) : Calls Try.prog 31 #[.pointer none, .int .u64 now, .int .i64 most] w fun e w' => e = .returned (.tuple #[.slice none 0 0, .int .i64 1]) ∧ w = w' := by
  by_cases h1 : 0 ≤ most
  · go_enter Try.func31, Try.ntmps31
    go_wp2_with fail
    refine (sh_may_nil _ _ _).mono ?_
    rintro e w' ⟨rfl, rfl⟩
    go_wp2_with fail
    go_ret2
    exact ⟨rfl, rfl⟩
  · have h2 : most < 0 := by omega
    clear h1
    go_enter Try.func31, Try.ntmps31
    go_wp2_with fail
    refine (sh_may_nil _ _ _).mono ?_
    rintro e w' ⟨rfl, rfl⟩
    go_wp2_with fail
    go_ret2
    exact ⟨rfl, rfl⟩
theorem sh_recv_zero {w : World} {b : Nat} (h : w.cell? ⟨b, 0, none⟩ = some (.pointer none)) (now most : Int) : Calls Try.prog 31 #[.pointer (some ⟨b, 0, none⟩), .int .u64 now, .int .i64 most] w fun e w' => e = .returned (.tuple #[.slice none 0 0, .int .i64 1]) ∧ w = w' := by
  have HZ := Lib.hid (sh_may_zero h)
  clear h
  by_cases h1 : 0 ≤ most
  · go_enter Try.func31, Try.ntmps31
    go_wp2_with fail
    refine (HZ.out _ _).mono ?_
    rintro e w' ⟨rfl, rfl⟩
    go_wp2_with fail
    go_ret2
    exact ⟨rfl, rfl⟩
  · have h2 : most < 0 := by omega
    clear h1
    go_enter Try.func31, Try.ntmps31
    go_wp2_with fail
    refine (HZ.out _ _).mono ?_
    rintro e w' ⟨rfl, rfl⟩
    go_wp2_with fail
    go_ret2
    exact ⟨rfl, rfl⟩

set_option maxHeartbeats 4000000 in
/-- Where may answers with an error. -/
theorem sh_recv_bad (h : Shp w L b k s) {now most : Int} (hm : mayE s now (decide (0 ≤ most) && decide (most ≤ 65536)) ≠ 0) :
    Calls Try.prog 31 #[.pointer (some ⟨b, 0, none⟩), .int .u64 now, .int .i64 most] w fun e w' =>
      e = .returned (.tuple #[.slice none 0 0, .int .i64 (mayE s now (decide (0 ≤ most) && decide (most ≤ 65536)))]) ∧ w = w' := by
  obtain ⟨v, hr, hs⟩ := h.ex
  by_cases h1 : 0 ≤ most
  · by_cases h2 : most ≤ 65536
    · have hx : (decide (0 ≤ most) && decide (most ≤ 65536)) = true := by simp [h1, h2]
      rw [hx] at hm ⊢
      have HM := Lib.hid (sh_may hr now true)
      have hm' : (mayE s now true != 0) = true := by simpa using hm
      generalize mayE s now true = E at *
      clear hm hs hr h hx
      go_enter Try.func31, Try.ntmps31
      go_wp2_with fail
      refine HM.out.mono ?_
      rintro e w' ⟨rfl, rfl⟩
      go_wp2_with fail
      go_ret2
      exact ⟨rfl, rfl⟩
    · have hx : (decide (0 ≤ most) && decide (most ≤ 65536)) = false := by simp [h1, h2]
      rw [hx] at hm ⊢
      have HM := Lib.hid (sh_may hr now false)
      have hm' : (mayE s now false != 0) = true := by simpa using hm
      have h3 : 65536 < most := by omega
      have hd : decide (most ≤ 65536) = false := by simpa using h2
      generalize mayE s now false = E at *
      clear hm hs hr h hx h2
      go_enter Try.func31, Try.ntmps31
      go_wp2_with fail
      refine HM.out.mono ?_
      rintro e w' ⟨rfl, rfl⟩
      go_wp2_with fail
      go_ret2
      exact ⟨rfl, rfl⟩
  · have hx : (decide (0 ≤ most) && decide (most ≤ 65536)) = false := by simp [h1]
    rw [hx] at hm ⊢
    have HM := Lib.hid (sh_may hr now false)
    have hm' : (mayE s now false != 0) = true := by simpa using hm
    have h3 : most < 0 := by omega
    generalize mayE s now false = E at *
    clear hm hs hr h hx h1
    go_enter Try.func31, Try.ntmps31
    go_wp2_with fail
    refine HM.out.mono ?_
    rintro e w' ⟨rfl, rfl⟩
    go_wp2_with fail
    go_ret2
    exact ⟨rfl, rfl⟩

/-- Nothing is left, and it was closed. -/
theorem sh_recv_eof (h : Shp w L b k s) {now most : Int} (h1 : 0 ≤ most) (h2 : most ≤ 65536) (hm : mayE s now true = 0) (hc : s.closed = true) (hx : s.segs = []) (hf : s.fin ≤ now) :
    Calls Try.prog 31 #[.pointer (some ⟨b, 0, none⟩), .int .u64 now, .int .i64 most] w fun e w' => e = .returned (.tuple #[.slice none 0 0, .int .i64 13]) ∧ w = w' := by
  obtain ⟨v, hr, hs⟩ := h.ex
  obtain ⟨c0, c1, c2, c3, c4, c5, c6⟩ := hr.cells
  have HM := Lib.hid (sh_may hr now true)
  rw [hm] at HM
  rw [hx] at hs
  rw [hc] at c4
  obtain ⟨a, cap, e⟩ := hs.form
  subst e
  rw [List.length_nil] at c3
  clear hm hs hr h hx hc
  go_enter Try.func31, Try.ntmps31
  go_wp2_with fail
  refine HM.out.mono ?_
  rintro e w' ⟨rfl, rfl⟩
  go_wp2_with fail
  go_ret2
  exact ⟨rfl, rfl⟩

theorem Shp.setLast (h : Shp w L b k s) {now : Int} (h0 : s.last ≤ now) (h1 : now < 18446744073709551615) : Shp (w.setCell ⟨b, 6, none⟩ (.int .u64 now)) L b k { s with last := now } := by
  obtain ⟨⟨v, hr, hs⟩, hb, ho, m1, m2, ne, old⟩ := h
  have f : Fr [b] w (w.setCell ⟨b, 6, none⟩ (.int .u64 now)) := (Fr.refl [b] w).setCell (.inl (by simp)) _
  have hq := heap_setCell_eq (i := 6) (u := .int .u64 now) hr
  obtain ⟨a1, a2, a3, a4, a5, a6, a7, a8, a9, a10, a11, a12, a13⟩ := ho
  exact ⟨⟨v, by unfold ShRow; simpa using hq, hs.keep f (by simp)⟩, f.keep hb (by simp; omega), ⟨a1, a2, a3, a4, a5, a6, by show 0 ≤ now; omega, h1, by show s.t ≤ now; omega, a10, a11, a12, a13⟩, m1, m2, ne, fun y hy => Nat.lt_of_lt_of_le (old y hy) f.size⟩

/-- The first segment's cells. -/
def HeadAt (w : World) (L : List Nat) (b k g o cap db dp dc : Nat) (x : List UInt8 × Int) (xs : List (List UInt8 × Int)) : Prop :=
    ∃ cur, w.heap[g]? = some (.cells cur 104 (0, 0)) ∧ o + cap * 2 ≤ cur.size ∧ xs.length + 1 ≤ cap ∧ cap ≤ maxLen ∧ g ∈ L ∧ g ≠ b ∧ g ≠ k ∧
      cur[o]? = some (.slice (some ⟨db, dp, none⟩) x.1.length dc) ∧ cur[o + 1]? = some (.int .u64 x.2) ∧ Sl w (some ⟨db, dp, none⟩) (bi x.1) ∧ db ∈ L ∧ db ≠ b ∧ db ≠ k ∧ db ≠ g ∧ x.1.length ≤ dc ∧
      ∀ i y, xs[i]? = some y → ∃ u0 u1, cur[o + 2 + i * 2]? = some u0 ∧ cur[o + 2 + i * 2 + 1]? = some u1 ∧ DAt w L b k g y u0 u1
theorem SegRow.head {w : World} {L : List Nat} {b k : Nat} {v : Value} {x : List UInt8 × Int} {xs : List (List UInt8 × Int)} (h : SegRow w L b k v (x :: xs)) :
    ∃ g o cap db dp dc, v = .slice (some ⟨g, o, none⟩) (xs.length + 1) cap ∧ HeadAt w L b k g o cap db dp dc x xs := by
  rcases h with ⟨_, h⟩ | ⟨g, o, cap, cur, e, hg, ho, h1, h2, hL, n1, n2, hx⟩
  · cases h
  · obtain ⟨u0, u1, c0, c1, ⟨db, dp, dc, e0, hs, m1, m2, m3, m4, m5⟩, e1⟩ := hx 0 x rfl
    subst e0 e1
    refine ⟨g, o, cap, db, dp, dc, e, cur, hg, ho, h1, h2, hL, n1, n2, by simpa using c0, by simpa using c1, hs, m1, m2, m3, m4, m5, fun i y hy => ?_⟩
    obtain ⟨u0, u1, c0, c1, hd⟩ := hx (i + 1) y (by simpa using hy)
    exact ⟨u0, u1, by rw [← c0]; congr 1; omega, by rw [← c1]; congr 1; omega, hd⟩
theorem HeadAt.keep {w w' : World} {L : List Nat} {b k g o cap db dp dc : Nat} {x : List UInt8 × Int} {xs : List (List UInt8 × Int)} (h : HeadAt w L b k g o cap db dp dc x xs) {T : List Nat} (f : Fr T w w') (hT : ∀ y ∈ T, y ∉ L) : HeadAt w' L b k g o cap db dp dc x xs := by
  obtain ⟨cur, hg, ho, h1, h2, hL, n1, n2, c0, c1, hs, m1, m2, m3, m4, m5, hr⟩ := h
  refine ⟨cur, f.keep hg (fun hm => hT _ hm hL), ho, h1, h2, hL, n1, n2, c0, c1, sl_keep hs f (fun _ b' o' e hm => by injection e with e; injection e with e1; subst e1; exact hT _ hm m1), m1, m2, m3, m4, m5, fun i y hy => ?_⟩
  obtain ⟨u0, u1, e0, e1, hd⟩ := hr i y hy
  exact ⟨u0, u1, e0, e1, hd.keep f (fun y hy hl => absurd hl (hT y hy))⟩
theorem HeadAt.cells {w : World} {L : List Nat} {b k g o cap db dp dc : Nat} {x : List UInt8 × Int} {xs : List (List UInt8 × Int)} (h : HeadAt w L b k g o cap db dp dc x xs) :
    w.cell? ⟨g, o, none⟩ = some (.slice (some ⟨db, dp, none⟩) x.1.length dc) ∧ w.cell? ⟨g, o + 1, none⟩ = some (.int .u64 x.2) ∧ w.frozen? ⟨g, o, none⟩ = false := by
  obtain ⟨cur, hg, ho, h1, h2, hL, n1, n2, c0, c1, hs, m1, m2, m3, m4, m5, hr⟩ := h
  exact ⟨(cell_of hg).trans c0, (cell_of hg).trans c1, free_of hg⟩
theorem HeadAt.facts {w : World} {L : List Nat} {b k g o cap db dp dc : Nat} {x : List UInt8 × Int} {xs : List (List UInt8 × Int)} (h : HeadAt w L b k g o cap db dp dc x xs) :
    g ∈ L ∧ g ≠ b ∧ db ∈ L ∧ db ≠ b ∧ db ≠ g ∧ x.1.length ≤ dc ∧ xs.length + 1 ≤ cap ∧ cap ≤ maxLen ∧ Sl w (some ⟨db, dp, none⟩) (bi x.1) := by
  obtain ⟨cur, hg, ho, h1, h2, hL, n1, n2, c0, c1, hs, m1, m2, m3, m4, m5, hr⟩ := h
  exact ⟨hL, n1, m1, m2, m4, m5, h1, h2, hs⟩
theorem sh_segs_ok {s : SH} (h : SHOk s) {xs : List (List UInt8 × Int)} (ht : totS xs ≤ totS s.segs) (ha : ∀ x ∈ xs, 0 ≤ x.2 ∧ x.2 ≤ 18446744073709551615) (hp : ∀ x ∈ xs, 0 < x.1.length) : SHOk { s with segs := xs } := by
  obtain ⟨a1, a2, a3, a4, a5, a6, a7, a8, a9, a10, a11, a12, a13⟩ := h
  exact ⟨a1, a2, a3, a4, a5, by show ((totS xs : Nat) : Int) ≤ s.lim; omega, a7, a8, a9, ha, hp, a12, a13⟩
/-- The head is cut (its first n bytes are gone), or gone whole. -/
theorem Shp.cutHead {x : List UInt8 × Int} {xs : List (List UInt8 × Int)} (h : Shp w L b k s) (hx : s.segs = x :: xs) {g o cap db dp dc n : Nat} (hv : ShRow w b k s (.slice (some ⟨g, o, none⟩) (xs.length + 1) cap)) (hh : HeadAt w L b k g o cap db dp dc x xs) (hn : n < x.1.length) :
    Shp (w.setCell ⟨g, o, none⟩ (.slice (some ⟨db, dp + n, none⟩) (x.1.length - n) (dc - n))) L b k { s with segs := (x.1.drop n, x.2) :: xs } := by
  obtain ⟨cur, hg, ho, h1, h2, hL, n1, n2, c0, c1, hs, m1, m2, m3, m4, m5, hr⟩ := hh
  obtain ⟨_, hb, hok, k1, k2, ne, old⟩ := h
  have f : Fr [g] w (w.setCell ⟨g, o, none⟩ (.slice (some ⟨db, dp + n, none⟩) (x.1.length - n) (dc - n))) := (Fr.refl [g] w).setCell (.inl (by simp)) _
  have hq := heap_setCell_eq (i := o) (u := .slice (some ⟨db, dp + n, none⟩) (x.1.length - n) (dc - n)) hg
  have hsz : o + 1 < cur.size := (Array.getElem?_eq_some_iff.1 c1).1
  have hok' : SHOk { s with segs := (x.1.drop n, x.2) :: xs } := by
    refine sh_segs_ok hok ?_ ?_ ?_
    · rw [hx]; simp [totS]
    · intro y hy
      have := hok.ats
      rw [hx] at this
      rcases List.mem_cons.1 hy with rfl | hy
      · exact this x (by simp)
      · exact this y (by simp [hy])
    · intro y hy
      have := hok.pos
      rw [hx] at this
      rcases List.mem_cons.1 hy with rfl | hy
      · simp; omega
      · exact this y (by simp [hy])
  refine ⟨⟨_, f.keep hv (by simp; omega), .inr ⟨g, o, cap, _, rfl, hq, by simpa using ho, h1, h2, hL, n1, n2, fun i y hy => ?_⟩⟩, f.keep hb (by simp; omega), hok', k1, k2, ne, fun y hy => Nat.lt_of_lt_of_le (old y hy) f.size⟩
  rcases i with _ | i
  · obtain rfl : (x.1.drop n, x.2) = y := by simpa using hy
    refine ⟨_, _, by rw [Nat.zero_mul, Nat.add_zero, Array.getElem?_setIfInBounds, if_pos rfl, if_pos (by omega)], by rw [Nat.zero_mul, Nat.add_zero, Array.getElem?_setIfInBounds, if_neg (by omega)]; exact c1, ⟨db, dp + n, dc - n, by simp, ?_, m1, m2, m3, m4, by simp; omega⟩, rfl⟩
    have h3 := (hs.piece n (x.1.length - n))
    have h4 : ((bi x.1).drop n).take (x.1.length - n) = bi (x.1.drop n) := by rw [bi_drop]; exact List.take_of_length_le (by simp [bi_length])
    rw [h4] at h3
    exact sl_keep h3 f (fun _ b' o' e hm => by injection e with e; injection e with e1; simp at hm; omega)
  · obtain ⟨u0, u1, e0, e1, hd⟩ := hr i y (by simpa using hy)
    exact ⟨u0, u1, by rw [Array.getElem?_setIfInBounds, if_neg (by omega), ← e0]; congr 1; omega, by rw [Array.getElem?_setIfInBounds, if_neg (by omega), ← e1]; congr 1; omega, hd.keep f (by simp)⟩
theorem Shp.popHead {x : List UInt8 × Int} {xs : List (List UInt8 × Int)} (h : Shp w L b k s) (hx : s.segs = x :: xs) {g o cap db dp dc : Nat} (u : Value) (hv : ShRow w b k s (.slice (some ⟨g, o, none⟩) (xs.length + 1) cap)) (hh : HeadAt w L b k g o cap db dp dc x xs) :
    Shp ((w.setCell ⟨g, o, none⟩ u).setCell ⟨b, 3, none⟩ (.slice (if cap = 1 then some ⟨g, o, none⟩ else some ⟨g, o + 2, none⟩) xs.length (cap - 1))) L b k { s with segs := xs } := by
  obtain ⟨cur, hg, ho, h1, h2, hL, n1, n2, c0, c1, hs, m1, m2, m3, m4, m5, hr⟩ := hh
  obtain ⟨_, hb, hok, k1, k2, ne, old⟩ := h
  obtain ⟨W1, hW1⟩ : ∃ W, w.setCell ⟨g, o, none⟩ u = W := ⟨_, rfl⟩
  have f : Fr [g] w W1 := by rw [← hW1]; exact (Fr.refl [g] w).setCell (.inl (by simp)) _
  have hq : W1.heap[g]? = some (.cells (cur.setIfInBounds o u) 104 (0, 0)) := by rw [← hW1]; exact heap_setCell_eq (i := o) (u := u) hg
  rw [hW1]
  clear hW1
  generalize hA : (if cap = 1 then some (⟨g, o, none⟩ : Addr) else some ⟨g, o + 2, none⟩) = A
  have hrow := heap_setCell_eq (i := 3) (u := .slice A xs.length (cap - 1)) (f.keep hv (by simp; omega))
  have f2 : Fr [b] W1 (W1.setCell ⟨b, 3, none⟩ (.slice A xs.length (cap - 1))) := (Fr.refl [b] W1).setCell (.inl (by simp)) _
  have hok' : SHOk { s with segs := xs } := by
    refine sh_segs_ok hok ?_ ?_ ?_
    · rw [hx]; simp [totS]
    · intro y hy
      have := hok.ats
      rw [hx] at this
      exact this y (by simp [hy])
    · intro y hy
      have := hok.pos
      rw [hx] at this
      exact this y (by simp [hy])
  refine ⟨⟨_, by unfold ShRow; simpa using hrow, ?_⟩, f2.keep (f.keep hb (by simp; omega)) (by simp; omega), hok', k1, k2, ne, fun y hy => Nat.lt_of_lt_of_le (old y hy) (Nat.le_trans f.size f2.size)⟩
  by_cases hcap : cap = 1
  · rw [if_pos hcap] at hA
    subst hA
    have hxs : xs = [] := List.eq_nil_of_length_eq_zero (by omega)
    subst hxs
    exact .inr ⟨g, o, cap - 1, _, rfl, f2.keep hq (by simp; omega), by simp; omega, by simp, by omega, hL, n1, n2, fun i y hy => by simp at hy⟩
  · rw [if_neg hcap] at hA
    subst hA
    refine .inr ⟨g, o + 2, cap - 1, _, rfl, f2.keep hq (by simp; omega), by rw [Array.size_setIfInBounds]; omega, by show xs.length ≤ cap - 1; omega, by omega, hL, n1, n2, fun i y hy => ?_⟩
    obtain ⟨u0, u1, e0, e1, hd⟩ := hr i y hy
    exact ⟨u0, u1, by rw [Array.getElem?_setIfInBounds, if_neg (by omega)]; exact e0, by rw [Array.getElem?_setIfInBounds, if_neg (by omega)]; exact e1, (hd.keep f (by simp)).keep f2 (by simp)⟩

set_option maxHeartbeats 16000000 in
theorem sh_recv_ok (h : Shp w L b k s) {now : Int} {m : Nat} (h2 : m ≤ 65536) (hnow : now < 18446744073709551615) (hm : mayE s now true = 0) (hc : s.closed = false ∨ (s.closed = true ∧ 0 < s.segs.length) ∨ (s.closed = true ∧ s.segs = [] ∧ now < s.fin)) :
    Calls Try.prog 31 #[.pointer (some ⟨b, 0, none⟩), .int .u64 now, .int .i64 m] w fun e w' =>
      ∃ v, e = .returned (.tuple #[v, .int .i64 0]) ∧ Fr L w w' ∧ Shp w' L b k (recvH s now m) ∧ Ow w' w.heap.size 5 v ((bi (recvL now m s.segs).1).map (Value.int .u8)) := by
  obtain ⟨v, hr, hs⟩ := h.ex
  obtain ⟨c0, c1, c2, c3, c4, c5, c6⟩ := hr.cells
  have HM := Lib.hid (sh_may hr now true)
  rw [hm] at HM
  obtain ⟨_, hlast, _⟩ := mayE_0 hm
  obtain ⟨a, cap, e⟩ := hs.form
  subst e
  have HSH := Lib.hid h
  have HOLD := Lib.hid h.old
  have h2' : (m : Int) ≤ 65536 := by omega
  have HU : Hid (Try.prog.underlying 68 = some (.slice 5)) := Lib.hid Try.underlying68
  have HIN : Hid ((Try.prog.info? 5).map (fun i => (i.zero, i.size, i.bytes)) = some (some (.int .u8 0), 1, 1)) := Lib.hid (by kernel_rfl)
  clear hm hs hr h
  rcases hc with hc | ⟨hc, hx⟩ | ⟨hc, hx, hf⟩
  all_goals
    try rw [hc] at c4
    replace hc := Lib.hid hc
    try (have hx0 : (0 : Int) < s.segs.length := by omega)
    try (have hx1 : ((s.segs.length : Int) == 0) = false := by simp; omega)
    try (have hx1 : s.segs ≠ [] := by intro e; rw [e] at hx; simp at hx)
    try (rw [hx, List.length_nil] at c3)
    try replace hx := Lib.hid hx
    as_aux_lemma =>
      go_enter Try.func31, Try.ntmps31
      go_wp2_with fail
      refine HM.out.mono ?_
      rintro e w' ⟨rfl, rfl⟩
      go_wp2_with fail
      clear HM c0 c1 c2 c3 c4 c5 c6
      go_loopw [9] (fun v9 wr => ∃ (o : List UInt8) (xs : List (List UInt8 × Int)), o.length ≤ m ∧ Hid (recvL now m s.segs = (o ++ (recvL now (m - o.length) xs).1, (recvL now (m - o.length) xs).2)) ∧ Ow wr w.heap.size 5 v9 ((bi o).map (Value.int .u8)) ∧ Hid (Shp wr L b k { s with segs := xs }) ∧ Fr L w wr) (fun v9 _ => m - slen v9)
      case atStart => exact ⟨[], s.segs, by simp, Lib.hid (by simp), Ow.nil _ _ _, HSH, Fr.refl _ _⟩
      case round =>
        obtain ⟨o, xs, ho, HE, ow, HS, g⟩ := hrel
        rename World => wr
        obtain ⟨oa, oc, rfl, hoc, hom, _, hob⟩ := ow.formB
        have OW := Lib.hid ow
        have HOBK := Lib.hid ow.lt
        obtain ⟨v', hr', hs'⟩ := HS.out.ex
        have HRW := Lib.hid hr'
        have ho' : (o.length : Int) ≤ m := by omega
        clear ow hob
        rcases xs with _ | ⟨⟨xd, xa⟩, xs⟩
        · obtain ⟨a', cap', e⟩ := hs'.form
          subst e
          obtain ⟨_, _, _, d3, _, _, d6⟩ := hr'.cells
          have f6 := hr'.free 6
          have HL := Lib.hid (HS.out.setLast hlast hnow)
          rw [List.length_nil] at d3
          have HX : Hid (recvL now m s.segs = (o, [])) := Lib.hid (by rw [HE.out]; simp [recvL])
          clear HE HS hs' hr' HSH
          go_wp2_with fail
          go_ret2
          obtain ⟨W, hW, fW, oW⟩ : ∃ W, wr.setCell ⟨b, 6, none⟩ (.int .u64 now) = W ∧ Fr [b] wr W ∧ Ow W w.heap.size 5 (.slice oa o.length oc) ((bi o).map (Value.int .u8)) := ⟨_, rfl, (Fr.refl [b] wr).setCell (.inl (by simp)) _, OW.out.keep ((Fr.refl [b] wr).setCell (.inl (by simp)) _) (fun k hk => by have := HOBK.out k hk; have := HOLD.out b HL.out.hb; simp; omega)⟩
          rw [hW] at HL ⊢
          refine ⟨_, rfl, g.trans fW (fun _ h => .inl h) (fun x hx => .inl (by simp at hx; subst hx; exact HL.out.hb)), ?_, ?_⟩
          · have := HL.out
            unfold recvH
            rw [HX.out]
            exact this
          · rw [HX.out]
            exact oW
        · obtain ⟨sg, so, cap', db, dp, dc, ev, hh⟩ := hs'.head
          subst ev
          obtain ⟨_, _, _, d3, _, _, d6⟩ := hr'.cells
          have f6 := hr'.free 6
          obtain ⟨i0, i1, _⟩ := hh.cells
          obtain ⟨mg, ng1, md, nd1, nd2, hdc, hcap, hcm, _⟩ := hh.facts
          have HHD := Lib.hid hh
          dsimp only at i0 i1 hdc
          have hl0 : (0 : Int) < ((xs.length + 1 : Nat) : Int) := by omega
          by_cases hla : xa ≤ now
          · by_cases hmo : o.length < m
            · obtain ⟨d, hd⟩ : ∃ d, d = m - o.length := ⟨_, rfl⟩
              have hsub : (m : Int) - (o.length : Int) = (d : Int) := by omega
              have hlt' : (o.length : Int) < m := by omega
              have hd0 : 0 < d := by omega
              by_cases hxd : xd.length ≤ d
              · have hxd' : (xd.length : Int) ≤ d := by omega
                replace hd := Lib.hid hd
                clear hs' hr' HSH hh hmo
                have HC1 := Lib.hid fun (w' : World) (f : ∃ T, Fr T wr w' ∧ ∀ x ∈ T, w.heap.size ≤ x) => (show w'.cell? ⟨sg, so, none⟩ = some (.slice (some ⟨db, dp, none⟩) xd.length dc) ∧ w'.frozen? ⟨sg, so, none⟩ = false from by
                  obtain ⟨T, f, hT⟩ := f
                  have q := (HHD.out.keep f (fun y hy hm => by have := HOLD.out y hm; have := hT y hy; omega)).cells
                  exact ⟨q.1, q.2.2⟩)
                have fd : Fr [] wr wr.drew := (Fr.refl _ _).drew
                have hcutl := fun (W : World) => run_cutl (pa := some ⟨db, dp, none⟩) (plen := xd.length) (pcap := dc) (l := xd.length) (by omega) W
                have hdc' : (xd.length : Int) ≤ dc := by omega
                have HL1 : Hid (((bi (xd.take xd.length)).map (Value.int .u8)).length = xd.length) := Lib.hid (by rw [List.length_map, bi_length, List.length_take]; omega)
                have HK1 : Hid (SlV wr.drew (some ⟨db, dp, none⟩) ((bi (xd.take xd.length)).map (Value.int .u8))) := Lib.hid (by rw [bi_take]; exact (sl_keep (Sl.take HHD.out.facts.2.2.2.2.2.2.2.2 _) fd (by simp)).toV)
                have H3 : Hid (((bi o).map (Value.int .u8)).length + xd.length ≤ maxLen) := Lib.hid (by simp [bi_length, maxLen]; omega)
                have H4 : Hid ((((bi o).map (Value.int .u8)).length + xd.length) * 1 ≤ 140737488355328) := Lib.hid (by simp [bi_length]; omega)
                have HM1 : Hid (w.heap.size ≤ wr.drew.heap.size) := Lib.hid g.size
                go_wp2_with fail
                refine wp_region_till [(0, true), (1, true), (2, true), (3, true), (4, true), (5, true), (6, true), (7, true), (9, true), (10, true), (11, true), (12, true), (13, true), (14, true), (8, false), (15, true)] [16, 17, 18] (fun w' => ∃ T, Fr T wr w' ∧ ∀ x ∈ T, w.heap.size ≤ x) (by kernel_rfl) (by kernel_rfl) ⟨[], fd, by simp⟩ ?_
                intro OPS HOPS
                have hops := HOPS.out
                try simp only [List.append_eq, List.cons_append, List.nil_append] at hops
                replace HOPS := Lib.hid hops
                clear hops
                refine walkX_take (o := _) (v := ?_) (by rw [HOPS.out]; simp only [List.getElem?_toArray, List.getElem?_cons_succ, List.getElem?_cons_zero]; exact rfl) (Or.inl ⟨rfl, ?_⟩) ?_
                rotate_left
                · (intro w hSw; have hSx := HC1.out _ hSw; (try dsimp only at hSx); clear hSw; go_simp) <;> (with_reducible rfl)
                simp only [Act.put, List.setIfInBounds_toArray, List.set_cons_zero, List.set_cons_succ]
                refine walkX_take (o := _) (v := ?_) (by rw [HOPS.out]; simp only [List.getElem?_toArray, List.getElem?_cons_succ, List.getElem?_cons_zero]; exact rfl) (Or.inl ⟨rfl, ?_⟩) ?_
                rotate_left
                · (intro w hSw; have hSx := HC1.out _ hSw; (try dsimp only at hSx); clear hSw; go_simp) <;> (with_reducible rfl)
                simp only [Act.put, List.setIfInBounds_toArray, List.set_cons_zero, List.set_cons_succ]
                refine walkX_take (o := _) (v := ?_) (by rw [HOPS.out]; simp only [List.getElem?_toArray, List.getElem?_cons_succ, List.getElem?_cons_zero]; exact rfl) (Or.inl ⟨rfl, ?_⟩) ?_
                rotate_left
                · (intro w hSw; have hSx := HC1.out _ hSw; (try dsimp only at hSx); clear hSw; go_simp) <;> (with_reducible rfl)
                simp only [Act.put, List.setIfInBounds_toArray, List.set_cons_zero, List.set_cons_succ]
                refine walkX_take (o := _) (v := ?_) (by rw [HOPS.out]; simp only [List.getElem?_toArray, List.getElem?_cons_succ, List.getElem?_cons_zero]; exact rfl) (Or.inl ⟨rfl, ?_⟩) ?_
                rotate_left
                · (intro w hSw; have hSx := HC1.out _ hSw; (try dsimp only at hSx); clear hSw; go_simp) <;> (with_reducible rfl)
                simp only [Act.put, List.setIfInBounds_toArray, List.set_cons_zero, List.set_cons_succ]
                refine walkX_take (o := _) (v := ?_) (by rw [HOPS.out]; simp only [List.getElem?_toArray, List.getElem?_cons_succ, List.getElem?_cons_zero]; exact rfl) (Or.inl ⟨rfl, ?_⟩) ?_
                rotate_left
                · (intro w hSw; have hSx := HC1.out _ hSw; (try dsimp only at hSx); clear hSw; go_simp) <;> (with_reducible rfl)
                simp only [Act.put, List.setIfInBounds_toArray, List.set_cons_zero, List.set_cons_succ]
                refine walkX_take (o := _) (v := ?_) (by rw [HOPS.out]; simp only [List.getElem?_toArray, List.getElem?_cons_succ, List.getElem?_cons_zero]; exact rfl) (Or.inl ⟨rfl, ?_⟩) ?_
                rotate_left
                · (intro w hSw; have hSx := HC1.out _ hSw; (try dsimp only at hSx); clear hSw; go_simp) <;> (with_reducible rfl)
                simp only [Act.put, List.setIfInBounds_toArray, List.set_cons_zero, List.set_cons_succ]
                refine walkX_take (o := _) (v := ?_) (by rw [HOPS.out]; simp only [List.getElem?_toArray, List.getElem?_cons_succ, List.getElem?_cons_zero]; exact rfl) (Or.inl ⟨rfl, ?_⟩) ?_
                rotate_left
                · (intro w hSw; have hSx := HC1.out _ hSw; (try dsimp only at hSx); clear hSw; go_simp) <;> (with_reducible rfl)
                simp only [Act.put, List.setIfInBounds_toArray, List.set_cons_zero, List.set_cons_succ]
                refine walkX_take (o := _) (v := ?_) (by rw [HOPS.out]; simp only [List.getElem?_toArray, List.getElem?_cons_succ, List.getElem?_cons_zero]; exact rfl) (Or.inl ⟨rfl, ?_⟩) ?_
                rotate_left
                · (intro w hSw; have hSx := HC1.out _ hSw; (try dsimp only at hSx); clear hSw; go_simp) <;> (with_reducible rfl)
                simp only [Act.put, List.setIfInBounds_toArray, List.set_cons_zero, List.set_cons_succ]
                refine walkX_take (o := _) (v := ?_) (by rw [HOPS.out]; simp only [List.getElem?_toArray, List.getElem?_cons_succ, List.getElem?_cons_zero]; exact rfl) (Or.inl ⟨rfl, ?_⟩) ?_
                rotate_left
                · (intro w hSw; have hSx := HC1.out _ hSw; (try dsimp only at hSx); clear hSw; go_simp) <;> (with_reducible rfl)
                simp only [Act.put, List.setIfInBounds_toArray, List.set_cons_zero, List.set_cons_succ]
                refine walkX_take (o := _) (v := ?_) (by rw [HOPS.out]; simp only [List.getElem?_toArray, List.getElem?_cons_succ, List.getElem?_cons_zero]; exact rfl) (Or.inl ⟨rfl, ?_⟩) ?_
                rotate_left
                · (intro w hSw; have hSx := HC1.out _ hSw; (try dsimp only at hSx); clear hSw; go_simp) <;> (with_reducible rfl)
                simp only [Act.put, List.setIfInBounds_toArray, List.set_cons_zero, List.set_cons_succ]
                refine walkX_take (o := _) (v := ?_) (by rw [HOPS.out]; simp only [List.getElem?_toArray, List.getElem?_cons_succ, List.getElem?_cons_zero]; exact rfl) (Or.inl ⟨rfl, ?_⟩) ?_
                rotate_left
                · (intro w hSw; have hSx := HC1.out _ hSw; (try dsimp only at hSx); clear hSw; go_simp) <;> (with_reducible rfl)
                simp only [Act.put, List.setIfInBounds_toArray, List.set_cons_zero, List.set_cons_succ]
                refine walkX_take (o := _) (v := ?_) (by rw [HOPS.out]; simp only [List.getElem?_toArray, List.getElem?_cons_succ, List.getElem?_cons_zero]; exact rfl) (Or.inl ⟨rfl, ?_⟩) ?_
                rotate_left
                · (intro w hSw; have hSx := HC1.out _ hSw; (try dsimp only at hSx); clear hSw; go_simp) <;> (with_reducible rfl)
                simp only [Act.put, List.setIfInBounds_toArray, List.set_cons_zero, List.set_cons_succ]
                refine walkX_take (o := _) (v := ?_) (by rw [HOPS.out]; simp only [List.getElem?_toArray, List.getElem?_cons_succ, List.getElem?_cons_zero]; exact rfl) (Or.inl ⟨rfl, ?_⟩) ?_
                rotate_left
                · (intro w hSw; have hSx := HC1.out _ hSw; (try dsimp only at hSx); clear hSw; go_simp) <;> (with_reducible rfl)
                simp only [Act.put, List.setIfInBounds_toArray, List.set_cons_zero, List.set_cons_succ]
                refine walkX_take (o := _) (v := ?_) (by rw [HOPS.out]; simp only [List.getElem?_toArray, List.getElem?_cons_succ, List.getElem?_cons_zero]; exact rfl) (Or.inl ⟨rfl, ?_⟩) ?_
                rotate_left
                · (intro w hSw; have hSx := HC1.out _ hSw; (try dsimp only at hSx); clear hSw; go_simp) <;> (with_reducible rfl)
                simp only [Act.put, List.setIfInBounds_toArray, List.set_cons_zero, List.set_cons_succ]
                refine walkX_call (o := _) (by rw [HOPS.out]; simp only [List.getElem?_toArray, List.getElem?_cons_succ, List.getElem?_cons_zero]; exact rfl) (fun K HK => ?_)
                refine step_append_fr2 rfl (.tmp 83) (.tmp 89) 68 rfl 5 (.int .u8 0) 1 HU.out HIN.out rfl w.heap.size (.slice oa o.length oc) _ rfl (OW.out.keep fd (by simp)) (some ⟨db, dp, none⟩) xd.length dc ((bi (xd.take xd.length)).map (Value.int .u8)) rfl HL1.out HK1.out (bytes_one _) H3.out H4.out HM1.out ?_
                intro v2 w2 ow2 f2 _
                have f2' : Fr (Value.slice oa o.length oc).ownBlock.toList wr w2 := fd.trans f2 (by simp) (fun x hx => .inl hx)
                rw [← List.map_append, ← bi_append] at ow2
                have OW2 := Lib.hid ow2
                have HT2 : Hid (∃ T, Fr T wr w2 ∧ ∀ x ∈ T, w.heap.size ≤ x) := Lib.hid ⟨_, f2', fun x hx => (HOBK.out x (by simpa using hx)).1⟩
                clear ow2 f2 f2'
                refine HK.out (fun w' => ∃ T, Fr T wr w' ∧ ∀ x ∈ T, w.heap.size ≤ x) _ _ (fun _ h => h) (HT2.out) ?_
                clear HK K
                simp only [Act.put, List.setIfInBounds_toArray, List.set_cons_zero, List.set_cons_succ]
                refine walkX_take (o := _) (v := ?_) (by rw [HOPS.out]; simp only [List.getElem?_toArray, List.getElem?_cons_succ, List.getElem?_cons_zero]; exact rfl) (Or.inl ⟨rfl, ?_⟩) ?_
                rotate_left
                · (intro w hSw; have hSx := HC1.out _ hSw; (try dsimp only at hSx); clear hSw; go_simp) <;> (with_reducible rfl)
                simp only [Act.put, List.setIfInBounds_toArray, List.set_cons_zero, List.set_cons_succ]
                refine walkX_tail ?_
                refine walkTail_step (o := _) (by rw [HOPS.out]; simp only [List.getElem?_toArray, List.getElem?_cons_succ, List.getElem?_cons_zero]; exact rfl) (fun K HK => ?_)
                go_simp
                refine HK.out _ _ ?_
                clear HK K
                try simp only [Act.put, List.setIfInBounds_toArray, List.set_cons_zero, List.set_cons_succ]
                refine walkTail_step (o := _) (by rw [HOPS.out]; simp only [List.getElem?_toArray, List.getElem?_cons_succ, List.getElem?_cons_zero]; exact rfl) (fun K HK => ?_)
                go_simp
                refine HK.out _ _ ?_
                clear HK K
                try simp only [Act.put, List.setIfInBounds_toArray, List.set_cons_zero, List.set_cons_succ]
                refine walkTail_step (o := _) (by rw [HOPS.out]; simp only [List.getElem?_toArray, List.getElem?_cons_succ, List.getElem?_cons_zero]; exact rfl) (fun K HK => ?_)
                obtain ⟨c5, c6⟩ := HC1.out w2 HT2.out
                go_simp
                refine HK.out _ _ ?_
                clear HK K
                try simp only [Act.put, List.setIfInBounds_toArray, List.set_cons_zero, List.set_cons_succ]
                refine walkTail_done ?_
                clear HOPS OPS
                have hx0 : 0 < xd.length := HS.out.ok.pos (xd, xa) (by simp)
                have ow3 := OW2.out
                rw [List.take_length] at ow3
                replace OW2 := Lib.hid ow3
                clear ow3
                obtain ⟨T2, fT2, hT2⟩ := HT2.out
                have hTL : ∀ y ∈ T2, y ∉ L := fun y hy hm => by have := HOLD.out y hm; have := hT2 y hy; omega
                have HS2 := Lib.hid (HS.out.keep fT2 hTL)
                have hbL := HS.out.hb
                have HRW2 := Lib.hid (fT2.keep HRW.out (fun hm => hTL _ hm hbL))
                have HH2 := Lib.hid (HHD.out.keep fT2 hTL)
                obtain ⟨a2, c2, rfl, _, _, _, _⟩ := OW2.out.formB
                have HOB2 := Lib.hid OW2.out.lt
                have gT : Fr L w w2 := g.trans fT2 (fun _ h => .inl h) (fun x hx => .inr (hT2 x hx))
                obtain ⟨ca, hca⟩ : ∃ ca, cutp (some ⟨db, dp, none⟩) dc xd.length = ca := ⟨_, rfl⟩
                rw [hca]
                obtain ⟨A, hA⟩ : ∃ A, (if cap' = 1 then some (⟨sg, so, none⟩ : Addr) else some ⟨sg, so + 2, none⟩) = A := ⟨_, rfl⟩
                have HP := Lib.hid (HS2.out.popHead rfl (.slice ca 0 (dc - xd.length)) HRW2.out HH2.out)
                have hcs := fun (W : World) => run_cut_seg1 (g := sg) (o := so) (n := xs.length) (cap := cap') W
                rw [hA] at HP hcs
                obtain ⟨w3, hw3, f3, e0⟩ : ∃ W, w2.setCell ⟨sg, so, none⟩ (.slice ca 0 (dc - xd.length)) = W ∧ Fr [sg] w2 W ∧ W.cell? ⟨sg, so, none⟩ = some (.slice ca 0 (dc - xd.length)) := by
                  obtain ⟨cur, hg, _, _, _, _, _, _, q0, _⟩ := HH2.out
                  refine ⟨_, rfl, (Fr.refl [sg] w2).setCell (.inl (by simp)) _, ?_⟩
                  rw [cell_of (heap_setCell_eq hg), Array.getElem?_setIfInBounds, if_pos rfl, if_pos (Array.getElem?_eq_some_iff.1 q0).1]
                rw [hw3] at HP ⊢
                have q3 := f3.keep HRW2.out (by simp; omega)
                have e3 : w3.cell? ⟨b, 3, none⟩ = some (.slice (some ⟨sg, so, none⟩) (xs.length + 1) cap') := cell_of q3
                have e3f : w3.frozen? ⟨b, 3, none⟩ = false := free_of q3
                have F4 := Lib.hid (f3.trans ((Fr.refl [b] w3).setCell (p := ⟨b, 3, none⟩) (.inl (by simp)) (.slice A xs.length (cap' - 1))) (U := [sg, b]) (by simp) (by simp))
                have HX : Hid (recvL now m s.segs = ((o ++ xd) ++ (recvL now (m - (o ++ xd).length) xs).1, (recvL now (m - (o ++ xd).length) xs).2)) := Lib.hid (by
                  rw [HE.out, ← hd.out, recvL_all (by exact hla) hd0 hxd, show m - (o ++ xd).length = d - xd.length by rw [List.length_append]; have := hd.out; omega]
                  simp)
                have hne : ¬ cap' = 0 := by omega
                clear HC1 HK1 HM1 HL1 H3 H4 hcutl hw3 hca hA c5 c6 q3 HS2 HRW2 HH2 HS HRW HHD HT2 fT2 HE hsub d3 i0 i1 f6 d6 fd hT2 hTL hne
                simp only [Exit.then]
                go_wp2_with fail
                go_roundw
                case rel => exact ⟨o ++ xd, xs, by rw [List.length_append]; have := hd.out; omega, HX, OW2.out.keep F4.out (fun k hk => by have h1 := HOB2.out k hk; have h2 := HOLD.out sg mg; have h3 := HOLD.out b hbL; simp; omega), HP, gT.trans F4.out (fun _ h => .inl h) (fun x hx => .inl (by simp at hx; rcases hx with rfl | rfl <;> assumption))⟩
                case measure => simp [slen]; have := hd.out; omega
              · have hxd' : (d : Int) < xd.length := by omega
                replace hd := Lib.hid hd
                clear hs' hr' HSH hh hmo
                have HC1 := Lib.hid fun (w' : World) (f : ∃ T, Fr T wr w' ∧ ∀ x ∈ T, w.heap.size ≤ x) => (show w'.cell? ⟨sg, so, none⟩ = some (.slice (some ⟨db, dp, none⟩) xd.length dc) ∧ w'.frozen? ⟨sg, so, none⟩ = false from by
                  obtain ⟨T, f, hT⟩ := f
                  have q := (HHD.out.keep f (fun y hy hm => by have := HOLD.out y hm; have := hT y hy; omega)).cells
                  exact ⟨q.1, q.2.2⟩)
                have fd : Fr [] wr wr.drew := (Fr.refl _ _).drew
                have hcutl := fun (W : World) => run_cutl (pa := some ⟨db, dp, none⟩) (plen := xd.length) (pcap := dc) (l := d) (by omega) W
                have hdc' : (d : Int) ≤ dc := by omega
                have HL1 : Hid (((bi (xd.take d)).map (Value.int .u8)).length = d) := Lib.hid (by rw [List.length_map, bi_length, List.length_take]; omega)
                have HK1 : Hid (SlV wr.drew (some ⟨db, dp, none⟩) ((bi (xd.take d)).map (Value.int .u8))) := Lib.hid (by rw [bi_take]; exact (sl_keep (Sl.take HHD.out.facts.2.2.2.2.2.2.2.2 _) fd (by simp)).toV)
                have H3 : Hid (((bi o).map (Value.int .u8)).length + d ≤ maxLen) := Lib.hid (by simp [bi_length, maxLen]; omega)
                have H4 : Hid ((((bi o).map (Value.int .u8)).length + d) * 1 ≤ 140737488355328) := Lib.hid (by simp [bi_length]; omega)
                have HM1 : Hid (w.heap.size ≤ wr.drew.heap.size) := Lib.hid g.size
                go_wp2_with fail
                refine wp_region_till [(0, true), (1, true), (2, true), (3, true), (4, true), (5, true), (6, true), (7, true), (9, true), (10, true), (11, true), (12, true), (13, true), (14, true), (8, false), (15, true)] [16, 17, 18] (fun w' => ∃ T, Fr T wr w' ∧ ∀ x ∈ T, w.heap.size ≤ x) (by kernel_rfl) (by kernel_rfl) ⟨[], fd, by simp⟩ ?_
                intro OPS HOPS
                have hops := HOPS.out
                try simp only [List.append_eq, List.cons_append, List.nil_append] at hops
                replace HOPS := Lib.hid hops
                clear hops
                refine walkX_take (o := _) (v := ?_) (by rw [HOPS.out]; simp only [List.getElem?_toArray, List.getElem?_cons_succ, List.getElem?_cons_zero]; exact rfl) (Or.inl ⟨rfl, ?_⟩) ?_
                rotate_left
                · (intro w hSw; have hSx := HC1.out _ hSw; (try dsimp only at hSx); clear hSw; go_simp) <;> (with_reducible rfl)
                simp only [Act.put, List.setIfInBounds_toArray, List.set_cons_zero, List.set_cons_succ]
                refine walkX_take (o := _) (v := ?_) (by rw [HOPS.out]; simp only [List.getElem?_toArray, List.getElem?_cons_succ, List.getElem?_cons_zero]; exact rfl) (Or.inl ⟨rfl, ?_⟩) ?_
                rotate_left
                · (intro w hSw; have hSx := HC1.out _ hSw; (try dsimp only at hSx); clear hSw; go_simp) <;> (with_reducible rfl)
                simp only [Act.put, List.setIfInBounds_toArray, List.set_cons_zero, List.set_cons_succ]
                refine walkX_take (o := _) (v := ?_) (by rw [HOPS.out]; simp only [List.getElem?_toArray, List.getElem?_cons_succ, List.getElem?_cons_zero]; exact rfl) (Or.inl ⟨rfl, ?_⟩) ?_
                rotate_left
                · (intro w hSw; have hSx := HC1.out _ hSw; (try dsimp only at hSx); clear hSw; go_simp) <;> (with_reducible rfl)
                simp only [Act.put, List.setIfInBounds_toArray, List.set_cons_zero, List.set_cons_succ]
                refine walkX_take (o := _) (v := ?_) (by rw [HOPS.out]; simp only [List.getElem?_toArray, List.getElem?_cons_succ, List.getElem?_cons_zero]; exact rfl) (Or.inl ⟨rfl, ?_⟩) ?_
                rotate_left
                · (intro w hSw; have hSx := HC1.out _ hSw; (try dsimp only at hSx); clear hSw; go_simp) <;> (with_reducible rfl)
                simp only [Act.put, List.setIfInBounds_toArray, List.set_cons_zero, List.set_cons_succ]
                refine walkX_take (o := _) (v := ?_) (by rw [HOPS.out]; simp only [List.getElem?_toArray, List.getElem?_cons_succ, List.getElem?_cons_zero]; exact rfl) (Or.inl ⟨rfl, ?_⟩) ?_
                rotate_left
                · (intro w hSw; have hSx := HC1.out _ hSw; (try dsimp only at hSx); clear hSw; go_simp) <;> (with_reducible rfl)
                simp only [Act.put, List.setIfInBounds_toArray, List.set_cons_zero, List.set_cons_succ]
                refine walkX_take (o := _) (v := ?_) (by rw [HOPS.out]; simp only [List.getElem?_toArray, List.getElem?_cons_succ, List.getElem?_cons_zero]; exact rfl) (Or.inl ⟨rfl, ?_⟩) ?_
                rotate_left
                · (intro w hSw; have hSx := HC1.out _ hSw; (try dsimp only at hSx); clear hSw; go_simp) <;> (with_reducible rfl)
                simp only [Act.put, List.setIfInBounds_toArray, List.set_cons_zero, List.set_cons_succ]
                refine walkX_take (o := _) (v := ?_) (by rw [HOPS.out]; simp only [List.getElem?_toArray, List.getElem?_cons_succ, List.getElem?_cons_zero]; exact rfl) (Or.inl ⟨rfl, ?_⟩) ?_
                rotate_left
                · (intro w hSw; have hSx := HC1.out _ hSw; (try dsimp only at hSx); clear hSw; go_simp) <;> (with_reducible rfl)
                simp only [Act.put, List.setIfInBounds_toArray, List.set_cons_zero, List.set_cons_succ]
                refine walkX_take (o := _) (v := ?_) (by rw [HOPS.out]; simp only [List.getElem?_toArray, List.getElem?_cons_succ, List.getElem?_cons_zero]; exact rfl) (Or.inl ⟨rfl, ?_⟩) ?_
                rotate_left
                · (intro w hSw; have hSx := HC1.out _ hSw; (try dsimp only at hSx); clear hSw; go_simp) <;> (with_reducible rfl)
                simp only [Act.put, List.setIfInBounds_toArray, List.set_cons_zero, List.set_cons_succ]
                refine walkX_take (o := _) (v := ?_) (by rw [HOPS.out]; simp only [List.getElem?_toArray, List.getElem?_cons_succ, List.getElem?_cons_zero]; exact rfl) (Or.inl ⟨rfl, ?_⟩) ?_
                rotate_left
                · (intro w hSw; have hSx := HC1.out _ hSw; (try dsimp only at hSx); clear hSw; go_simp) <;> (with_reducible rfl)
                simp only [Act.put, List.setIfInBounds_toArray, List.set_cons_zero, List.set_cons_succ]
                refine walkX_take (o := _) (v := ?_) (by rw [HOPS.out]; simp only [List.getElem?_toArray, List.getElem?_cons_succ, List.getElem?_cons_zero]; exact rfl) (Or.inl ⟨rfl, ?_⟩) ?_
                rotate_left
                · (intro w hSw; have hSx := HC1.out _ hSw; (try dsimp only at hSx); clear hSw; go_simp) <;> (with_reducible rfl)
                simp only [Act.put, List.setIfInBounds_toArray, List.set_cons_zero, List.set_cons_succ]
                refine walkX_take (o := _) (v := ?_) (by rw [HOPS.out]; simp only [List.getElem?_toArray, List.getElem?_cons_succ, List.getElem?_cons_zero]; exact rfl) (Or.inl ⟨rfl, ?_⟩) ?_
                rotate_left
                · (intro w hSw; have hSx := HC1.out _ hSw; (try dsimp only at hSx); clear hSw; go_simp) <;> (with_reducible rfl)
                simp only [Act.put, List.setIfInBounds_toArray, List.set_cons_zero, List.set_cons_succ]
                refine walkX_take (o := _) (v := ?_) (by rw [HOPS.out]; simp only [List.getElem?_toArray, List.getElem?_cons_succ, List.getElem?_cons_zero]; exact rfl) (Or.inl ⟨rfl, ?_⟩) ?_
                rotate_left
                · (intro w hSw; have hSx := HC1.out _ hSw; (try dsimp only at hSx); clear hSw; go_simp) <;> (with_reducible rfl)
                simp only [Act.put, List.setIfInBounds_toArray, List.set_cons_zero, List.set_cons_succ]
                refine walkX_take (o := _) (v := ?_) (by rw [HOPS.out]; simp only [List.getElem?_toArray, List.getElem?_cons_succ, List.getElem?_cons_zero]; exact rfl) (Or.inl ⟨rfl, ?_⟩) ?_
                rotate_left
                · (intro w hSw; have hSx := HC1.out _ hSw; (try dsimp only at hSx); clear hSw; go_simp) <;> (with_reducible rfl)
                simp only [Act.put, List.setIfInBounds_toArray, List.set_cons_zero, List.set_cons_succ]
                refine walkX_take (o := _) (v := ?_) (by rw [HOPS.out]; simp only [List.getElem?_toArray, List.getElem?_cons_succ, List.getElem?_cons_zero]; exact rfl) (Or.inl ⟨rfl, ?_⟩) ?_
                rotate_left
                · (intro w hSw; have hSx := HC1.out _ hSw; (try dsimp only at hSx); clear hSw; go_simp) <;> (with_reducible rfl)
                simp only [Act.put, List.setIfInBounds_toArray, List.set_cons_zero, List.set_cons_succ]
                refine walkX_call (o := _) (by rw [HOPS.out]; simp only [List.getElem?_toArray, List.getElem?_cons_succ, List.getElem?_cons_zero]; exact rfl) (fun K HK => ?_)
                refine step_append_fr2 rfl (.tmp 83) (.tmp 89) 68 rfl 5 (.int .u8 0) 1 HU.out HIN.out rfl w.heap.size (.slice oa o.length oc) _ rfl (OW.out.keep fd (by simp)) (some ⟨db, dp, none⟩) d dc ((bi (xd.take d)).map (Value.int .u8)) rfl HL1.out HK1.out (bytes_one _) H3.out H4.out HM1.out ?_
                intro v2 w2 ow2 f2 _
                have f2' : Fr (Value.slice oa o.length oc).ownBlock.toList wr w2 := fd.trans f2 (by simp) (fun x hx => .inl hx)
                rw [← List.map_append, ← bi_append] at ow2
                have OW2 := Lib.hid ow2
                have HT2 : Hid (∃ T, Fr T wr w2 ∧ ∀ x ∈ T, w.heap.size ≤ x) := Lib.hid ⟨_, f2', fun x hx => (HOBK.out x (by simpa using hx)).1⟩
                clear ow2 f2 f2'
                refine HK.out (fun w' => ∃ T, Fr T wr w' ∧ ∀ x ∈ T, w.heap.size ≤ x) _ _ (fun _ h => h) (HT2.out) ?_
                clear HK K
                simp only [Act.put, List.setIfInBounds_toArray, List.set_cons_zero, List.set_cons_succ]
                refine walkX_take (o := _) (v := ?_) (by rw [HOPS.out]; simp only [List.getElem?_toArray, List.getElem?_cons_succ, List.getElem?_cons_zero]; exact rfl) (Or.inl ⟨rfl, ?_⟩) ?_
                rotate_left
                · (intro w hSw; have hSx := HC1.out _ hSw; (try dsimp only at hSx); clear hSw; go_simp) <;> (with_reducible rfl)
                simp only [Act.put, List.setIfInBounds_toArray, List.set_cons_zero, List.set_cons_succ]
                refine walkX_tail ?_
                refine walkTail_step (o := _) (by rw [HOPS.out]; simp only [List.getElem?_toArray, List.getElem?_cons_succ, List.getElem?_cons_zero]; exact rfl) (fun K HK => ?_)
                go_simp
                refine HK.out _ _ ?_
                clear HK K
                try simp only [Act.put, List.setIfInBounds_toArray, List.set_cons_zero, List.set_cons_succ]
                refine walkTail_step (o := _) (by rw [HOPS.out]; simp only [List.getElem?_toArray, List.getElem?_cons_succ, List.getElem?_cons_zero]; exact rfl) (fun K HK => ?_)
                go_simp
                refine HK.out _ _ ?_
                clear HK K
                try simp only [Act.put, List.setIfInBounds_toArray, List.set_cons_zero, List.set_cons_succ]
                refine walkTail_step (o := _) (by rw [HOPS.out]; simp only [List.getElem?_toArray, List.getElem?_cons_succ, List.getElem?_cons_zero]; exact rfl) (fun K HK => ?_)
                obtain ⟨c5, c6⟩ := HC1.out w2 HT2.out
                go_simp
                refine HK.out _ _ ?_
                clear HK K
                try simp only [Act.put, List.setIfInBounds_toArray, List.set_cons_zero, List.set_cons_succ]
                refine walkTail_done ?_
                clear HOPS OPS
                obtain ⟨T2, fT2, hT2⟩ := HT2.out
                have hTL : ∀ y ∈ T2, y ∉ L := fun y hy hm => by have := HOLD.out y hm; have := hT2 y hy; omega
                have HS2 := Lib.hid (HS.out.keep fT2 hTL)
                have hbL := HS.out.hb
                have HRW2 := Lib.hid (fT2.keep HRW.out (fun hm => hTL _ hm hbL))
                have HH2 := Lib.hid (HHD.out.keep fT2 hTL)
                obtain ⟨a2, c2, rfl, _, _, _, _⟩ := OW2.out.formB
                have HOB2 := Lib.hid OW2.out.lt
                have gT : Fr L w w2 := g.trans fT2 (fun _ h => .inl h) (fun x hx => .inr (hT2 x hx))
                rw [cutp_ne (show dc ≠ d by omega)]
                have HP := Lib.hid (HS2.out.cutHead rfl HRW2.out HH2.out (show d < xd.length by omega))
                obtain ⟨w3, hw3, f3, e0⟩ : ∃ W, w2.setCell ⟨sg, so, none⟩ (.slice (some ⟨db, dp + d, none⟩) (xd.length - d) (dc - d)) = W ∧ Fr [sg] w2 W ∧ W.cell? ⟨sg, so, none⟩ = some (.slice (some ⟨db, dp + d, none⟩) (xd.length - d) (dc - d)) := by
                  obtain ⟨cur, hg, _, _, _, _, _, _, q0, _⟩ := HH2.out
                  refine ⟨_, rfl, (Fr.refl [sg] w2).setCell (.inl (by simp)) _, ?_⟩
                  rw [cell_of (heap_setCell_eq hg), Array.getElem?_setIfInBounds, if_pos rfl, if_pos (Array.getElem?_eq_some_iff.1 q0).1]
                dsimp only at HP
                rw [hw3] at HP ⊢
                have hz : (((xd.length - d : Nat) : Int) == 0) = false := by simp; omega
                have hz2 : xd.length - d ≠ 0 := by omega
                have hl2 : (o ++ xd.take d).length = m := by rw [List.length_append, List.length_take]; have := hd.out; omega
                have HL2 := Lib.hid hl2
                have HX : Hid (recvL now m s.segs = ((o ++ xd.take d) ++ (recvL now (m - (o ++ xd.take d).length) ((xd.drop d, xa) :: xs)).1, (recvL now (m - (o ++ xd.take d).length) ((xd.drop d, xa) :: xs)).2)) := Lib.hid (by
                  rw [HE.out, ← hd.out, recvL_part (by exact hla) hd0 (by exact Nat.lt_of_not_le hxd), hl2, Nat.sub_self, recvL_zero]
                  simp)
                have F4 := Lib.hid f3
                clear HC1 HK1 HM1 HL1 H3 H4 hcutl hw3 c5 c6 HS2 HRW2 HH2 HS HRW HHD HT2 fT2 HE hsub d3 i0 i1 f6 d6 fd hT2 hTL hl2 f3
                simp only [Exit.then]
                go_wp2_with fail
                go_roundw
                case rel => exact ⟨o ++ xd.take d, (xd.drop d, xa) :: xs, by rw [HL2.out]; omega, HX, OW2.out.keep F4.out (fun k hk => by have h1 := HOB2.out k hk; have h2 := HOLD.out sg mg; simp; omega), HP, gT.trans F4.out (fun _ h => .inl h) (fun x hx => .inl (by simp at hx; subst hx; assumption))⟩
                case measure => simp only [slen]; rw [HL2.out]; have := hd.out; omega
            · have hmo' : (m : Int) ≤ o.length := by omega
              have HL := Lib.hid (HS.out.setLast hlast hnow)
              have HX : Hid (recvL now m s.segs = (o, (xd, xa) :: xs)) := Lib.hid (by rw [HE.out, show m - o.length = 0 by omega, recvL_zero]; simp)
              clear HE hs' hr' HSH hh hmo
              go_wp2_with fail
              go_ret2
              obtain ⟨W, hW, fW, oW⟩ : ∃ W, wr.setCell ⟨b, 6, none⟩ (.int .u64 now) = W ∧ Fr [b] wr W ∧ Ow W w.heap.size 5 (.slice oa o.length oc) ((bi o).map (Value.int .u8)) := ⟨_, rfl, (Fr.refl [b] wr).setCell (.inl (by simp)) _, OW.out.keep ((Fr.refl [b] wr).setCell (.inl (by simp)) _) (fun k hk => by have := HOBK.out k hk; have := HOLD.out b HL.out.hb; simp; omega)⟩
              rw [hW] at HL ⊢
              refine ⟨_, rfl, g.trans fW (fun _ h => .inl h) (fun x hx => .inl (by simp at hx; subst hx; exact HL.out.hb)), ?_, ?_⟩
              · have := HL.out
                unfold recvH
                rw [HX.out]
                exact this
              · rw [HX.out]
                exact oW
          · have HL := Lib.hid (HS.out.setLast hlast hnow)
            have HX : Hid (recvL now m s.segs = (o, (xd, xa) :: xs)) := Lib.hid (by rw [HE.out, recvL_late _ _ (by show now < xa; omega)]; simp)
            have hla' : now < xa := by omega
            clear HE hs' hr' HSH hh hla
            go_wp2_with fail
            go_ret2
            obtain ⟨W, hW, fW, oW⟩ : ∃ W, wr.setCell ⟨b, 6, none⟩ (.int .u64 now) = W ∧ Fr [b] wr W ∧ Ow W w.heap.size 5 (.slice oa o.length oc) ((bi o).map (Value.int .u8)) := ⟨_, rfl, (Fr.refl [b] wr).setCell (.inl (by simp)) _, OW.out.keep ((Fr.refl [b] wr).setCell (.inl (by simp)) _) (fun k hk => by have := HOBK.out k hk; have := HOLD.out b HL.out.hb; simp; omega)⟩
            rw [hW] at HL ⊢
            refine ⟨_, rfl, g.trans fW (fun _ h => .inl h) (fun x hx => .inl (by simp at hx; subst hx; exact HL.out.hb)), ?_, ?_⟩
            · have := HL.out
              unfold recvH
              rw [HX.out]
              exact this
            · rw [HX.out]
              exact oW

theorem sh_recv (h : Shp w L b k s) {now most : Int} (h0 : 0 ≤ now) (h1 : now ≤ 18446744073709551615) :
    Calls Try.prog 31 #[.pointer (some ⟨b, 0, none⟩), .int .u64 now, .int .i64 most] w fun e w' =>
      ∃ v, e = .returned (.tuple #[v, .int .i64 (recvE s now most)]) ∧ Fr L w w' ∧ Shp w' L b k (recvS s now most) ∧ Ow w' w.heap.size 5 v ((bi (recvB s now most)).map (Value.int .u8)) := by
  by_cases hm : mayE s now (decide (0 ≤ most) && decide (most ≤ 65536)) = 0
  · obtain ⟨hr, hlast, hne⟩ := mayE_0 hm
    have hr0 := hr
    rw [Bool.and_eq_true, decide_eq_true_iff, decide_eq_true_iff] at hr
    obtain ⟨m, rfl⟩ := Int.eq_ofNat_of_zero_le hr.1
    rw [hr0] at hm
    by_cases he : s.closed = true ∧ s.segs = [] ∧ s.fin ≤ now
    · have e1 : recvE s now m = 13 := by unfold recvE; rw [hr0, if_neg (by rw [hm]; decide), if_pos he]
      refine (sh_recv_eof h hr.1 hr.2 hm he.1 he.2.1 he.2.2).mono fun e w' ⟨h1, h2⟩ => ⟨_, by rw [e1]; exact h1, ?_, ?_, ?_⟩
      · subst h2; exact Fr.refl _ _
      · subst h2; rw [recvS_bad (by rw [e1]; decide)]; exact h
      · rw [recvB_bad (by rw [e1]; decide)]; exact Ow.nil _ _ _
    · have e1 : recvE s now m = 0 := by unfold recvE; rw [hr0, if_neg (by rw [hm]; decide), if_neg he]
      refine (sh_recv_ok h (m := m) (by omega) (by omega) hm ?_).mono fun e w' ⟨v, h1, h2, h3, h4⟩ => ⟨v, by rw [e1]; exact h1, h2, ?_, ?_⟩
      · cases hc : s.closed with
        | false => exact .inl rfl
        | true =>
          refine .inr ?_
          rcases hx : s.segs with _ | ⟨x, xs⟩
          · exact .inr ⟨rfl, rfl, by apply Classical.byContradiction; intro hf; exact he ⟨hc, hx, by omega⟩⟩
          · exact .inl ⟨rfl, by simp⟩
      · rw [recvS_ok e1]; exact h3
      · rw [recvB_ok e1]; exact h4
  · have e1 : recvE s now most = mayE s now (decide (0 ≤ most) && decide (most ≤ 65536)) := by unfold recvE; rw [if_pos hm]
    refine (sh_recv_bad h hm).mono fun e w' ⟨h1, h2⟩ => ⟨_, by rw [e1]; exact h1, ?_, ?_, ?_⟩
    · subst h2; exact Fr.refl _ _
    · subst h2; rw [recvS_bad (by rw [e1]; exact hm)]; exact h
    · rw [recvB_bad (by rw [e1]; exact hm)]; exact Ow.nil _ _ _
end
end Go.Proofs.Ytdndabklcenndaa
