/-
  Package shaper: what a shaper holds, and the contracts of none, may, Len, Next.
-/
import Derived.Test.YtdndabklcenndaaBucketNew
import Derived.Test.YtdndabklcenndaaStepsTwo
import Derived.Test.YtdndabklcenndaaByteArg
namespace Go.Proofs.Ytdndabklcenndaa
open Go.RowKit
set_option maxRecDepth 100000

/-- What a shaper holds: its bucket (r p u l t), latency, limit, segments, closed, end, last. -/
structure SH where
  r : Int
  p : Int
  u : Int
  l : Int
  t : Int
  lat : Int
  lim : Int
  segs : List (List UInt8 × Int)
  closed : Bool
  fin : Int
  last : Int
/-- How many bytes are under way. -/
def totS : List (List UInt8 × Int) → Nat
  | [] => 0
  | x :: xs => x.1.length + totS xs
theorem totS_append (a b : List (List UInt8 × Int)) : totS (a ++ b) = totS a + totS b := by
  induction a with
  | nil => simp [totS]
  | cons x a ih => simp [totS, ih]; omega
theorem totS_take_succ {xs : List (List UInt8 × Int)} {k : Nat} (h : k < xs.length) : totS (xs.take (k + 1)) = totS (xs.take k) + xs[k].1.length := by
  rw [List.take_succ_eq_append_getElem h, totS_append]
  simp [totS]
theorem totS_take_le (xs : List (List UInt8 × Int)) (k : Nat) : totS (xs.take k) ≤ totS xs := by
  have := totS_append (xs.take k) (xs.drop k)
  rw [List.take_append_drop] at this
  omega

structure SHOk (s : SH) : Prop where
  inv : BkInv s.r s.p s.u s.l s.t
  lat0 : 0 ≤ s.lat
  lat1 : s.lat ≤ 1000000
  lim0 : 1 ≤ s.lim
  lim1 : s.lim ≤ 65536
  tot : (totS s.segs : Int) ≤ s.lim
  last0 : 0 ≤ s.last
  last1 : s.last < 18446744073709551615
  tl : s.t ≤ s.last
  ats : ∀ x ∈ s.segs, 0 ≤ x.2 ∧ x.2 ≤ 18446744073709551615
  pos : ∀ x ∈ s.segs, 0 < x.1.length
  fin0 : 0 ≤ s.fin
  fin1 : s.fin ≤ 18446744073709551615

/-- A segment's bytes: a block of the shaper's own that is none of its three rows. -/
structure DAt (w : World) (L : List Nat) (b k g : Nat) (x : List UInt8 × Int) (u0 u1 : Value) : Prop where
  ex : ∃ db dp dc, u0 = .slice (some ⟨db, dp, none⟩) x.1.length dc ∧ Sl w (some ⟨db, dp, none⟩) (bi x.1) ∧ db ∈ L ∧ db ≠ b ∧ db ≠ k ∧ db ≠ g ∧ x.1.length ≤ dc
  at_ : u1 = .int .u64 x.2
def SegRow (w : World) (L : List Nat) (b k : Nat) (v : Value) (xs : List (List UInt8 × Int)) : Prop :=
  (v = .slice none 0 0 ∧ xs = []) ∨ ∃ g o cap cur, v = .slice (some ⟨g, o, none⟩) xs.length cap ∧ w.heap[g]? = some (.cells cur 104 (0, 0)) ∧ o + cap * 2 ≤ cur.size ∧ xs.length ≤ cap ∧ cap ≤ maxLen ∧
    g ∈ L ∧ g ≠ b ∧ g ≠ k ∧ ∀ i x, xs[i]? = some x → ∃ u0 u1, cur[o + i * 2]? = some u0 ∧ cur[o + i * 2 + 1]? = some u1 ∧ DAt w L b k g x u0 u1
theorem DAt.keep {w w' : World} {L : List Nat} {b k g : Nat} {x : List UInt8 × Int} {u0 u1 : Value} (h : DAt w L b k g x u0 u1) {T : List Nat} (f : Fr T w w') (hT : ∀ y ∈ T, y ∈ L → y = b ∨ y = k ∨ y = g) : DAt w' L b k g x u0 u1 := by
  obtain ⟨⟨db, dp, dc, e, hs, m1, m2, m3, m4, m5⟩, ha⟩ := h
  exact ⟨⟨db, dp, dc, e, sl_keep hs f (fun _ b' o' e' hm => by cases e'; rcases hT db hm m1 with h | h | h <;> contradiction), m1, m2, m3, m4, m5⟩, ha⟩
theorem DAt.mono {w : World} {L L' : List Nat} {b k g : Nat} {x : List UInt8 × Int} {u0 u1 : Value} (h : DAt w L b k g x u0 u1) (hL : ∀ y ∈ L, y ∈ L') : DAt w L' b k g x u0 u1 := by
  obtain ⟨⟨db, dp, dc, e, hs, m1, m2, m3, m4, m5⟩, ha⟩ := h
  exact ⟨⟨db, dp, dc, e, hs, hL _ m1, m2, m3, m4, m5⟩, ha⟩
theorem SegRow.keep {w w' : World} {L : List Nat} {b k : Nat} {v : Value} {xs : List (List UInt8 × Int)} (h : SegRow w L b k v xs) {T : List Nat} (f : Fr T w w') (hT : ∀ y ∈ T, y ∈ L → y = b ∨ y = k) : SegRow w' L b k v xs := by
  rcases h with h | ⟨g, o, cap, cur, e, hg, ho, h1, h2, hL, n1, n2, hx⟩
  · exact .inl h
  · refine .inr ⟨g, o, cap, cur, e, f.keep hg (fun hm => by rcases hT g hm hL with h | h <;> contradiction), ho, h1, h2, hL, n1, n2, fun i x hi => ?_⟩
    obtain ⟨u0, u1, c0, c1, hd⟩ := hx i x hi
    exact ⟨u0, u1, c0, c1, hd.keep f (fun y hy hl => by rcases hT y hy hl with h | h; exact .inl h; exact .inr (.inl h))⟩
theorem SegRow.mono {w : World} {L L' : List Nat} {b k : Nat} {v : Value} {xs : List (List UInt8 × Int)} (h : SegRow w L b k v xs) (hL : ∀ y ∈ L, y ∈ L') : SegRow w L' b k v xs := by
  rcases h with h | ⟨g, o, cap, cur, e, hg, ho, h1, h2, hl, n1, n2, hx⟩
  · exact .inl h
  · refine .inr ⟨g, o, cap, cur, e, hg, ho, h1, h2, hL _ hl, n1, n2, fun i x hi => ?_⟩
    obtain ⟨u0, u1, c0, c1, hd⟩ := hx i x hi
    exact ⟨u0, u1, c0, c1, hd.mono hL⟩
/-- What the loops read of segment i. -/
theorem SegRow.at_ {w : World} {L : List Nat} {b k : Nat} {v : Value} {xs : List (List UInt8 × Int)} (h : SegRow w L b k v xs) {i : Nat} (hi : i < xs.length) :
    ∃ g o cap db dp dc, v = .slice (some ⟨g, o, none⟩) xs.length cap ∧ (∀ w', Fr [] w w' → w'.cell? ⟨g, o + i * 2, none⟩ = some (.slice (some ⟨db, dp, none⟩) xs[i].1.length dc) ∧ w'.cell? ⟨g, o + i * 2 + 1, none⟩ = some (.int .u64 xs[i].2)) ∧ g ∈ L ∧ db ∈ L ∧ Sl w (some ⟨db, dp, none⟩) (bi xs[i].1) ∧ xs.length ≤ cap := by
  rcases h with ⟨_, rfl⟩ | ⟨g, o, cap, cur, e, hg, ho, h1, h2, hL, n1, n2, hx⟩
  · simp at hi
  · obtain ⟨u0, u1, c0, c1, ⟨db, dp, dc, e0, hs, m1, _⟩, e1⟩ := hx i _ (List.getElem?_eq_getElem hi)
    subst e0 e1
    exact ⟨g, o, cap, db, dp, dc, e, fun w' f => ⟨by rw [cell_of (f.keep hg (by simp)), c0], by rw [cell_of (f.keep hg (by simp)), c1]⟩, hL, m1, hs, h1⟩
theorem SegRow.form {w : World} {L : List Nat} {b k : Nat} {v : Value} {xs : List (List UInt8 × Int)} (h : SegRow w L b k v xs) : ∃ a cap, v = .slice a xs.length cap := by
  rcases h with ⟨rfl, rfl⟩ | ⟨g, o, cap, cur, e, _⟩
  · exact ⟨none, 0, rfl⟩
  · exact ⟨_, cap, e⟩

def ShRow (w : World) (b k : Nat) (s : SH) (v : Value) : Prop :=
  w.heap[b]? = some (.cells #[.pointer (some ⟨k, 0, none⟩), .int .u64 s.lat, .int .i64 s.lim, v, .bool s.closed, .int .u64 s.fin, .int .u64 s.last] 85 (0, 0))
structure Shp (w : World) (L : List Nat) (b k : Nat) (s : SH) : Prop where
  ex : ∃ v, ShRow w b k s v ∧ SegRow w L b k v s.segs
  bk : BkAt w k s.r s.p s.u s.l s.t
  ok : SHOk s
  hb : b ∈ L
  hk : k ∈ L
  ne : b ≠ k
  old : ∀ y ∈ L, y < w.heap.size
section
variable {w w' : World} {L : List Nat} {b k : Nat} {s : SH}
theorem Shp.keep (h : Shp w L b k s) {T : List Nat} (f : Fr T w w') (hT : ∀ y ∈ T, y ∉ L) : Shp w' L b k s := by
  obtain ⟨⟨v, h1, h2⟩, h3, h4, h5, h6, h7, h8⟩ := h
  exact ⟨⟨v, f.keep h1 (fun hm => hT _ hm h5), h2.keep f (fun y hy hl => absurd hl (hT y hy))⟩, f.keep h3 (fun hm => hT _ hm h6), h4, h5, h6, h7, fun y hy => Nat.lt_of_lt_of_le (h8 y hy) f.size⟩
theorem Shp.keep0 (h : Shp w L b k s) (f : Fr [] w w') : Shp w' L b k s := h.keep f (by simp)
theorem ShRow.cells {v : Value} (h : ShRow w b k s v) : w.cell? ⟨b, 0, none⟩ = some (.pointer (some ⟨k, 0, none⟩)) ∧ w.cell? ⟨b, 1, none⟩ = some (.int .u64 s.lat) ∧ w.cell? ⟨b, 2, none⟩ = some (.int .i64 s.lim) ∧ w.cell? ⟨b, 3, none⟩ = some v ∧ w.cell? ⟨b, 4, none⟩ = some (.bool s.closed) ∧ w.cell? ⟨b, 5, none⟩ = some (.int .u64 s.fin) ∧ w.cell? ⟨b, 6, none⟩ = some (.int .u64 s.last) :=
  ⟨cell_of h, cell_of h, cell_of h, cell_of h, cell_of h, cell_of h, cell_of h⟩
theorem ShRow.free {v : Value} (h : ShRow w b k s v) (i : Nat) : w.frozen? ⟨b, i, none⟩ = false := free_of h

theorem sh_none_nil (w : World) : Calls Try.prog 57 #[.pointer none] w fun e w' => e = .returned (.bool true) ∧ w = w' := by
  go_enter Try.func57, Try.ntmps57
  go_wp2_with fail
  go_ret
  exact ⟨rfl, rfl⟩
theorem sh_none_zero {w : World} {b : Nat} (h : w.cell? ⟨b, 0, none⟩ = some (.pointer none)) : Calls Try.prog 57 #[.pointer (some ⟨b, 0, none⟩)] w fun e w' => e = .returned (.bool true) ∧ w = w' := by
  go_enter Try.func57, Try.ntmps57
  go_wp2_with fail
  go_ret
  exact ⟨rfl, rfl⟩
theorem sh_none {w : World} {b k : Nat} (h : w.cell? ⟨b, 0, none⟩ = some (.pointer (some ⟨k, 0, none⟩))) : Calls Try.prog 57 #[.pointer (some ⟨b, 0, none⟩)] w fun e w' => e = .returned (.bool false) ∧ w = w' := by
  go_enter Try.func57, Try.ntmps57
  go_wp2_with fail
  go_ret
  exact ⟨rfl, rfl⟩

/-- The error of a call with a time. -/
def mayE (s : SH) (now : Int) (right : Bool) : Int := if right = false then 2 else if now < s.last ∨ now = 18446744073709551615 then 3 else 0
theorem sh_may_nil (w : World) (now : Int) (right : Bool) : Calls Try.prog 54 #[.pointer none, .int .u64 now, .bool right] w fun e w' => e = .returned (.int .i64 1) ∧ w = w' := by
  go_enter Try.func54, Try.ntmps54
  go_wp2_with fail
  refine (sh_none_nil _).mono ?_
  rintro e w' ⟨rfl, rfl⟩
  go_wp2_with fail
  go_ret
  exact ⟨rfl, rfl⟩
theorem sh_may_zero {w : World} {b : Nat} (h : w.cell? ⟨b, 0, none⟩ = some (.pointer none)) (now : Int) (right : Bool) : Calls Try.prog 54 #[.pointer (some ⟨b, 0, none⟩), .int .u64 now, .bool right] w fun e w' => e = .returned (.int .i64 1) ∧ w = w' := by
  go_enter Try.func54, Try.ntmps54
  go_wp2_with fail
  refine (sh_none_zero h).mono ?_
  rintro e w' ⟨rfl, rfl⟩
  go_wp2_with fail
  go_ret
  exact ⟨rfl, rfl⟩
theorem sh_may {v : Value} (h : ShRow w b k s v) (now : Int) (right : Bool) :
    Calls Try.prog 54 #[.pointer (some ⟨b, 0, none⟩), .int .u64 now, .bool right] w fun e w' => e = .returned (.int .i64 (mayE s now right)) ∧ w = w' := by
  obtain ⟨c0, c1, c2, c3, c4, c5, c6⟩ := h.cells
  have H0 := Lib.hid (sh_none c0)
  cases right with
  | false =>
    rw [show mayE s now false = 2 from rfl]
    go_enter Try.func54, Try.ntmps54
    go_wp2_with fail
    refine H0.out.mono ?_
    rintro e w' ⟨rfl, rfl⟩
    go_wp2_with fail
    go_ret
    exact ⟨rfl, rfl⟩
  | true =>
    by_cases hlt : now < s.last
    · rw [show mayE s now true = 3 by unfold mayE; rw [if_neg (by simp), if_pos (.inl hlt)]]
      go_enter Try.func54, Try.ntmps54
      go_wp2_with fail
      refine H0.out.mono ?_
      rintro e w' ⟨rfl, rfl⟩
      go_wp2_with fail
      go_ret
      exact ⟨rfl, rfl⟩
    · by_cases hn : now = 18446744073709551615
      · rw [show mayE s now true = 3 by unfold mayE; rw [if_neg (by simp), if_pos (.inr hn)]]
        have hlt' : s.last ≤ now := by omega
        subst hn
        clear hlt
        go_enter Try.func54, Try.ntmps54
        go_wp2_with fail
        refine H0.out.mono ?_
        rintro e w' ⟨rfl, rfl⟩
        go_wp2_with fail
        go_ret
        exact ⟨rfl, rfl⟩
      · rw [show mayE s now true = 0 by unfold mayE; rw [if_neg (by simp), if_neg (by omega)]]
        have hlt' : s.last ≤ now := by omega
        have hn' : (now == 18446744073709551615) = false := by simpa using hn
        clear hlt hn
        go_enter Try.func54, Try.ntmps54
        go_wp2_with fail
        refine H0.out.mono ?_
        rintro e w' ⟨rfl, rfl⟩
        go_wp2_with fail
        go_ret
        exact ⟨rfl, rfl⟩

theorem sh_len_nil (w : World) : Calls Try.prog 32 #[.pointer none] w fun e w' => e = .returned (.int .i64 0) ∧ w = w' := by
  go_enter Try.func32, Try.ntmps32
  go_wp2_with fail
  refine (sh_none_nil _).mono ?_
  rintro e w' ⟨rfl, rfl⟩
  go_wp2_with fail
  go_ret
  exact ⟨rfl, rfl⟩
theorem sh_len_zero {w : World} {b : Nat} (h : w.cell? ⟨b, 0, none⟩ = some (.pointer none)) : Calls Try.prog 32 #[.pointer (some ⟨b, 0, none⟩)] w fun e w' => e = .returned (.int .i64 0) ∧ w = w' := by
  go_enter Try.func32, Try.ntmps32
  go_wp2_with fail
  refine (sh_none_zero h).mono ?_
  rintro e w' ⟨rfl, rfl⟩
  go_wp2_with fail
  go_ret
  exact ⟨rfl, rfl⟩
theorem sh_len (h : Shp w L b k s) : Calls Try.prog 32 #[.pointer (some ⟨b, 0, none⟩)] w fun e w' => e = .returned (.int .i64 (totS s.segs)) ∧ Fr [] w w' := by
  obtain ⟨v, hr, hs⟩ := h.ex
  obtain ⟨c0, c1, c2, c3, c4, c5, c6⟩ := hr.cells
  have htot : totS s.segs ≤ 65536 := by have := h.ok.tot; have := h.ok.lim1; omega
  have HS := Lib.hid hs
  obtain ⟨a, cap, e⟩ := hs.form
  subst e
  have hlen : s.segs.length ≤ 65536 := by
    have := h.ok.pos
    have : ∀ xs : List (List UInt8 × Int), (∀ x ∈ xs, 0 < x.1.length) → xs.length ≤ totS xs := by
      intro xs
      induction xs with
      | nil => intro _; simp
      | cons x xs ih => intro hx; have h1 := hx x (by simp); have h2 := ih (fun y hy => hx y (by simp [hy])); simp [totS]; omega
    have := this _ h.ok.pos
    omega
  have H0 := Lib.hid (sh_none c0)
  generalize s.segs = xs at *
  clear hs hr h
  go_enter Try.func32, Try.ntmps32
  go_wp2_with fail
  refine H0.out.mono ?_
  rintro e w' ⟨rfl, rfl⟩
  go_wp2_with fail
  go_loopw [3, 13] (fun n i wr => ∃ q : Nat, q ≤ xs.length ∧ i = .int .i64 q ∧ n = .int .i64 (totS (xs.take q)) ∧ Fr [] w wr) (fun _ i _ => xs.length + 1 - (intOf i).toNat)
  case atStart => exact ⟨0, by omega, rfl, rfl, Fr.refl _ _⟩
  case round =>
    obtain ⟨q, hq, rfl, rfl, f⟩ := hrel
    rename World => wr
    by_cases hlt : q < xs.length
    · obtain ⟨g, o, cap', db, dp, dc, ev, hc, _, _, _, hcap⟩ := HS.out.at_ hlt
      injection ev with ev1 ev2 ev3
      subst ev1
      obtain ⟨i0, i1⟩ := hc wr f
      have hg1 : (q : Int) < xs.length := by omega
      have ht1 : totS (xs.take (q + 1)) = totS (xs.take q) + xs[q].1.length := totS_take_succ hlt
      have ht2 := totS_take_le xs (q + 1)
      have HT := Lib.hid ht1
      clear hc ht1
      generalize xs[q] = x at *
      obtain ⟨xd, xa⟩ := x
      dsimp only at i0 i1 HT
      have ht3 : totS (xs.take q) + xd.length ≤ 65536 := by have := HT.out; omega
      go_wp2_with fail
      go_roundw
      case rel => exact ⟨q + 1, by omega, by go_num, by rw [HT.out]; go_num, f.alloc _⟩
      case measure => simp [intOf]; omega
    · obtain rfl : q = xs.length := by omega
      have hlt' : ¬ ((xs.length : Int) < xs.length) := by omega
      rw [List.take_length]
      go_wp2_with fail
      go_ret
      exact ⟨rfl, f⟩

/-- The time of the next arrival. -/
def nextH (s : SH) : Int := match s.segs with | x :: _ => x.2 | [] => if s.closed then s.fin else 18446744073709551615
theorem sh_next_nil (w : World) : Calls Try.prog 34 #[.pointer none] w fun e w' => e = .returned (.int .u64 18446744073709551615) ∧ w = w' := by
  go_enter Try.func34, Try.ntmps34
  go_wp2_with fail
  refine (sh_none_nil _).mono ?_
  rintro e w' ⟨rfl, rfl⟩
  go_wp2_with fail
  go_ret
  exact ⟨rfl, rfl⟩
theorem sh_next_zero {w : World} {b : Nat} (h : w.cell? ⟨b, 0, none⟩ = some (.pointer none)) : Calls Try.prog 34 #[.pointer (some ⟨b, 0, none⟩)] w fun e w' => e = .returned (.int .u64 18446744073709551615) ∧ w = w' := by
  go_enter Try.func34, Try.ntmps34
  go_wp2_with fail
  refine (sh_none_zero h).mono ?_
  rintro e w' ⟨rfl, rfl⟩
  go_wp2_with fail
  go_ret
  exact ⟨rfl, rfl⟩
theorem sh_next (h : Shp w L b k s) : Calls Try.prog 34 #[.pointer (some ⟨b, 0, none⟩)] w fun e w' => e = .returned (.int .u64 (nextH s)) ∧ w = w' := by
  obtain ⟨v, hr, hs⟩ := h.ex
  obtain ⟨c0, c1, c2, c3, c4, c5, c6⟩ := hr.cells
  have H0 := Lib.hid (sh_none c0)
  rcases hx : s.segs with _ | ⟨x, xs⟩
  · rw [hx] at hs
    obtain ⟨a, cap, e⟩ := hs.form
    subst e
    rw [List.length_nil] at c3
    rcases hc : s.closed with _ | _
    · rw [show nextH s = 18446744073709551615 by unfold nextH; rw [hx, hc]; rfl]
      rw [hc] at c4
      clear hx hc hr hs h
      go_enter Try.func34, Try.ntmps34
      go_wp2_with fail
      refine H0.out.mono ?_
      rintro e w' ⟨rfl, rfl⟩
      go_wp2_with fail
      go_ret
      exact ⟨rfl, rfl⟩
    · rw [show nextH s = s.fin by unfold nextH; rw [hx, hc]; rfl]
      rw [hc] at c4
      clear hx hc hr hs h
      go_enter Try.func34, Try.ntmps34
      go_wp2_with fail
      refine H0.out.mono ?_
      rintro e w' ⟨rfl, rfl⟩
      go_wp2_with fail
      go_ret
      exact ⟨rfl, rfl⟩
  · rw [hx] at hs
    obtain ⟨g, o, cap, db, dp, dc, e, hc, _, _, _, hcap⟩ := hs.at_ (i := 0) (by simp)
    subst e
    obtain ⟨i0, i1⟩ := hc w (Fr.refl _ _)
    rw [show nextH s = x.2 by unfold nextH; rw [hx]]
    simp only [Nat.zero_mul, Nat.add_zero, List.getElem_cons_zero, List.length_cons] at i0 i1 c3 hcap
    have hl : (0 : Int) < ((xs.length + 1 : Nat) : Int) := by omega
    clear hx hc hr hs h
    go_enter Try.func34, Try.ntmps34
    go_wp2_with fail
    refine H0.out.mono ?_
    rintro e w' ⟨rfl, rfl⟩
    go_wp2_with fail
    go_ret
    exact ⟨rfl, rfl⟩
end
end Go.Proofs.Ytdndabklcenndaa
