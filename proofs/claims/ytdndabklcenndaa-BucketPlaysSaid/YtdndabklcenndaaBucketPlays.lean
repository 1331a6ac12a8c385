/-
  BucketPlays, walked.
-/
import Derived.Test.YtdndabklcenndaaBucketStarts
import Derived.Test.YtdndabklcenndaaActs40
import Derived.Deep.DeepCutAuto
import Derived.Deep.LoopGhost
namespace Go.Proofs.Ytdndabklcenndaa
open Go.RowKit
set_option maxRecDepth 100000

theorem plays_known {r p u now : Int} {a : Option Addr} {len cap : Nat} (w : World) (hlen : len ≤ maxLen) (h : ¬ Val r p u now ∨ 20 < len) :
    Calls Try.prog 6 #[.int .i64 r, .int .i64 p, .int .i64 u, .int .u64 now, .slice a len cap] w fun e w' => e = .returned (.bool true) ∧ Fr [] w w' := by
  unfold maxLen at hlen
  by_cases hv : Val r p u now
  · have HV := Lib.hid hv
    have h1 : 20 < len := h.resolve_left (fun k => k hv)
    have h1' : (20 : Int) < (len : Int) := by omega
    clear h hv
    go_enter Try.func6, Try.ntmps6
    go_wp2_with (first | (go_at_call 13; refine (valid_yes _ HV.out).mono ?_; rintro e w' ⟨rfl, rfl⟩) | (go_at_call 14; refine (known_yes _).mono ?_; rintro e w' ⟨rfl, hf⟩))
    go_ret
    exact ⟨rfl, hf⟩
  · have HV := Lib.hid hv
    clear h hv
    go_enter Try.func6, Try.ntmps6
    go_wp2_with (first | (go_at_call 13; refine (valid_no _ HV.out).mono ?_; rintro e w' ⟨rfl, rfl⟩) | (go_at_call 14; refine (known_yes _).mono ?_; rintro e w' ⟨rfl, hf⟩))
    go_ret
    exact ⟨rfl, hf⟩

/-- The model's block. -/
def ModAt (w : World) (M : Nat) (r p u l t : Int) : Prop :=
  w.heap[M]? = some (.cells #[.int .i64 r, .int .i64 p, .int .i64 u, .int .i64 l, .int .u64 t] 45 (0, 0))
theorem ModAt.cells {w : World} {M : Nat} {r p u l t : Int} (h : ModAt w M r p u l t) :
    w.cell? ⟨M, 0, none⟩ = some (.int .i64 r) ∧ w.cell? ⟨M, 1, none⟩ = some (.int .i64 p) ∧ w.cell? ⟨M, 2, none⟩ = some (.int .i64 u) ∧ w.cell? ⟨M, 3, none⟩ = some (.int .i64 l) ∧ w.cell? ⟨M, 4, none⟩ = some (.int .u64 t) :=
  ⟨cell_of h, cell_of h, cell_of h, cell_of h, cell_of h⟩
theorem ModAt.free {w : World} {M : Nat} {r p u l t : Int} (h : ModAt w M r p u l t) (i : Nat) : w.frozen? ⟨M, i, none⟩ = false := free_of h

/-- What holds at the head of each round. -/
structure Pl (w0 : World) (B M : Nat) (a : Option Addr) (len : Nat) (A T N : Nat → Int) (r p u : Int) (wr : World) (b : Nat) (l t : Int) : Prop where
  mo : ModAt wr M r p u l t
  bk : BkAt wr b r p u l t
  inv : BkInv r p u l t
  fr : Fr [] w0 wr
  ac : Acts40 wr B a len A T N
  b0 : B ≤ b
  m0 : B < M
  ne : b ≠ M

theorem Pl.drew {w0 : World} {B M : Nat} {a : Option Addr} {len : Nat} {A T N : Nat → Int} {r p u : Int} {wr : World} {b : Nat} {l t : Int} (h : Pl w0 B M a len A T N r p u wr b l t) : Pl w0 B M a len A T N r p u wr.drew b l t :=
  ⟨h.mo, h.bk, h.inv, h.fr.drew, h.ac, h.b0, h.m0, h.ne⟩

/-- What the first statement of a round leaves. -/
structure PlMid (w0 : World) (B M : Nat) (a : Option Addr) (len : Nat) (A T N : Nat → Int) (r p u : Int) (wr : World) (b Q : Nat) (l t : Int) : Prop where
  mo : ∃ l0 t0, ModAt wr M r p u l0 t0
  nx : ModAt wr Q r p u l t
  bk : BkAt wr b r p u l t
  inv : BkInv r p u l t
  fr : Fr [] w0 wr
  ac : Acts40 wr B a len A T N
  b0 : B ≤ b
  m0 : B < M
  ne : b ≠ M
  nq : Q ≠ M

theorem lvl_same {r p u l t : Int} (h : l ≤ u * p) : lvl r p u l t t = l := by
  unfold lvl
  rw [show t - t = 0 from by omega, Int.mul_zero]
  omega

set_option maxHeartbeats 2000000 in
theorem plays_loop {r p u now : Int} {a : Option Addr} {len cap : Nat} {A T N : Nat → Int} (w : World) (hlen : len ≤ 20) (hv : Val r p u now) (h0 : 0 ≤ now) (h1 : now ≤ 18446744073709551615) (hl : Acts40 w w.heap.size a len A T N) :
    Calls Try.prog 6 #[.int .i64 r, .int .i64 p, .int .i64 u, .int .u64 now, .slice a len cap] w fun e w' => e = .returned (.bool true) ∧ Fr [] w w' := by
  have hi := hv.inv h0 h1
  have hp := hi.p1
  have hp2 := hi.p2
  obtain ⟨tp1, tp2⟩ := hi.top
  have hlen' : (len : Int) ≤ 20 := by omega
  have HV := Lib.hid hv
  clear hv
  go_enter Try.func6, Try.ntmps6
  go_wp2_with fail
  refine (valid_yes _ HV.out).mono ?_
  rintro e w' ⟨rfl, rfl⟩
  go_wp2_with fail
  refine (new_ok _ HV.out).mono ?_
  rintro e w1 ⟨rfl, f1, b1⟩
  have l1 := hl.keep f1 (Nat.le_refl _) (by simp)
  generalize hB : w.heap.size = B at *
  have hs : w.heap.size ≤ B := by omega
  have hMM' : B ≤ w.heap.size := by omega
  have hsz := f1.size
  clear hB
  go_wp2_with fail
  have p0 : Pl w B w1.heap.size a len A T N r p u (w1.alloc (Obj.cells #[Value.int IntKind.i64 r, Value.int IntKind.i64 p, Value.int IntKind.i64 u, Value.int IntKind.i64 (u * p), Value.int IntKind.u64 now] 45)) B (u * p) now :=
    ⟨newA rfl, keepA b1, hi, f1.alloc _, l1.keep ((Fr.refl [] w1).alloc _) (by omega) (by simp), Nat.le_refl _, BkAt.lt b1, by have := BkAt.lt b1; omega⟩
  clear b1 f1 l1 hl
  generalize w1.heap.size = M at *
  go_loopg [11, 14] len (fun g b i wr => ∃ (k b' : Nat) (l t : Int), k + g = len ∧ i = .int .i64 k ∧ b = .pointer (some ⟨b', 0, none⟩) ∧ Pl w B M a len A T N r p u wr b' l t)
  case atStart => exact ⟨0, B, u * p, now, by omega, rfl, rfl, p0⟩
  case round =>
    obtain ⟨k, b', l, t, hg, rfl, rfl, P⟩ := hrel
    clear p0
    by_cases hlt : k < len
    · obtain ⟨ab, ao, rfl, hab, c0, c1, c2, ⟨x1, x2⟩, ⟨y1, y2⟩, ⟨z1, z2⟩⟩ := P.ac k hlt
      obtain ⟨m0, m1, m2, m3, m4⟩ := P.mo.cells
      have hM := P.m0
      have hb0 := P.b0
      have hne := P.ne
      have hbk := P.bk
      have hinv := P.inv
      have hmo := P.mo
      have hac := P.ac
      have hfr := P.fr
      have hBw : B ≤ wr.heap.size := Nat.le_of_lt (Nat.lt_of_le_of_lt hb0 (BkAt.lt hbk))
      clear P
      have hlb := BkAt.lt hbk
      have hlm := lt_of_heap hmo
      have hMb : M ∉ [b'] := by simp only [List.mem_singleton]; omega
      have hBb : ∀ x ∈ [b'], B ≤ x := by intro x hx; simp only [List.mem_singleton] at hx; omega
      have hbw : wr.heap.size ∉ [b'] := by simp only [List.mem_singleton]; omega
      have hBw1 : B ≤ (wr.alloc (Obj.cells #[Value.int IntKind.i64 0, Value.int IntKind.i64 0, Value.int IntKind.i64 0, Value.int IntKind.i64 0, Value.int IntKind.u64 0] 45)).heap.size := by rw [World.size_alloc]; omega
      have hQM : wr.heap.size ≠ M := by omega
      have hQa : wr.heap.size ≠ ab := by omega
      have hnil : ∀ x ∈ ([] : List Nat), B ≤ x := by simp
      have hA1 : BkAt wr.drew b' r p u l t := hbk
      have hA2 : BkAt (wr.alloc (Obj.cells #[Value.int IntKind.i64 0, Value.int IntKind.i64 0, Value.int IntKind.i64 0, Value.int IntKind.i64 0, Value.int IntKind.u64 0] 45)).drew b' r p u l t := keepA hbk
      go_upto_region 10 with fail
      go_cut [15, 16, 17] (fun s15 s16 s17 wx => ∃ (b2 Q : Nat) (l2 t2 : Int), s15 = .pointer (some ⟨b2, 0, none⟩) ∧ s16 = .pointer (some ⟨Q, 0, none⟩) ∧ s17 = .bool true ∧ PlMid w B M (some ⟨ab, ao, none⟩) len A T N r p u wx b2 Q l2 t2)
      case first =>
        go_region_held3 (fun w' => w'.cell? ⟨M, 0, none⟩ = some (.int .i64 r) ∧ w'.cell? ⟨M, 1, none⟩ = some (.int .i64 p) ∧ w'.cell? ⟨M, 2, none⟩ = some (.int .i64 u) ∧ w'.cell? ⟨M, 3, none⟩ = some (.int .i64 l) ∧ w'.cell? ⟨M, 4, none⟩ = some (.int .u64 t) ∧
            w'.cell? ⟨ab, ao + k * 3, none⟩ = some (.int .i64 (A k)) ∧ w'.cell? ⟨ab, ao + k * 3 + 1, none⟩ = some (.int .u64 (T k)) ∧ w'.cell? ⟨ab, ao + k * 3 + 2, none⟩ = some (.int .i64 (N k)))
          (first | (with_reducible exact ⟨q0, q1, q2, q3, q4, q5, q6, q7⟩) | (with_reducible exact ⟨m0, m1, m2, m3, m4, c0, c1, c2⟩) | (refine ⟨?_, ?_, ?_, ?_, ?_, ?_, ?_, ?_⟩ <;> (repeat (first | (with_reducible refine cell_set_block ?_ hQM) | (with_reducible refine cell_set_block ?_ hQa))) <;> (with_reducible assumption)) | go_keep)
          (first
            | (go_at_call 22; ((with_reducible refine (step_any (w := wr.drew) (r := r) (p := p) (u := u) (l := l) (t := t) hA1 hinv _ _ _ y2).mono ?_); rintro e w3 ⟨b3, l3, t3, rfl, inv3, f3, bk3, hor⟩; have mo3 : ModAt w3 M r p u l t := f3.keep (b := M) (by exact hmo) hMb; have ac3 : Acts40 w3 B (some ⟨ab, ao, none⟩) len A T N := Acts40.keep (w := wr.drew) (by exact hac) f3 (by exact hBw) hBb; obtain ⟨q0, q1, q2, q3, q4⟩ := mo3.cells; obtain ⟨q5, q6, q7⟩ := ac3.cells hlt))
            | (go_at_call 22; ((with_reducible refine (step_any (w := (wr.alloc (Obj.cells #[Value.int IntKind.i64 0, Value.int IntKind.i64 0, Value.int IntKind.i64 0, Value.int IntKind.i64 0, Value.int IntKind.u64 0] 45)).drew) (r := r) (p := p) (u := u) (l := l) (t := t) hA2 hinv _ _ _ y2).mono ?_); rintro e w3 ⟨b3, l3, t3, rfl, inv3, f3, bk3, hor⟩; have mo3 : ModAt w3 M r p u l t := f3.keep (b := M) (by exact keepA hmo) hMb; have ac3 : Acts40 w3 B (some ⟨ab, ao, none⟩) len A T N := Acts40.keep (w := (wr.alloc (Obj.cells #[Value.int IntKind.i64 0, Value.int IntKind.i64 0, Value.int IntKind.i64 0, Value.int IntKind.i64 0, Value.int IntKind.u64 0] 45)).drew) (by exact hac.keep (((Fr.refl [] wr).alloc _).drew) hBw hnil) f3 (by exact hBw1) hBb; obtain ⟨q0, q1, q2, q3, q4⟩ := mo3.cells; obtain ⟨q5, q6, q7⟩ := ac3.cells hlt; have nz := f3.keep (b := wr.heap.size) (by exact newA rfl) hbw; have n0 := cell_of (i := 0) nz; have n1 := cell_of (i := 1) nz; have n2 := cell_of (i := 2) nz; have n3 := cell_of (i := 3) nz; have n4 := cell_of (i := 4) nz; have o0 := free_of (i := 0) nz; have o1 := free_of (i := 1) nz; have o2 := free_of (i := 2) nz; have o3 := free_of (i := 3) nz; have o4 := free_of (i := 4) nz)))
        · go_wp2_with fail
          go_meet
          have hs3 : wr.heap.size ≤ w3.heap.size := f3.size
          have hor' : b3 = b' ∨ wr.heap.size ≤ b3 := hor
          refine ⟨b3, _, l3, t3, rfl, rfl, rfl, ?_⟩
          exact ⟨⟨l, t, keepA mo3⟩, newA rfl, keepA bk3, inv3, ((hfr.drew).then1 f3 (.inr (by omega))).alloc _, ac3.keep ((Fr.refl [] w3).alloc _) (by omega) hnil, by omega, hM, by omega, by have := lt_of_heap mo3; omega⟩
        · go_wp2_with fail
          go_meet
          have hor' : b3 = b' ∨ wr.heap.size + 1 ≤ b3 := hor.imp id (fun h => by simpa using h)
          have hs3 : wr.heap.size + 1 ≤ w3.heap.size := by have := f3.size; simpa using this
          refine ⟨b3, _, l3, t3, rfl, rfl, rfl, ?_⟩
          have F : Fr [wr.heap.size] w3 (((((w3.setCell ⟨wr.heap.size, 0, none⟩ (.int .i64 r)).setCell ⟨wr.heap.size, 1, none⟩ (.int .i64 p)).setCell ⟨wr.heap.size, 2, none⟩ (.int .i64 u)).setCell ⟨wr.heap.size, 3, none⟩ (.int .i64 l3)).setCell ⟨wr.heap.size, 4, none⟩ (.int .u64 t3)) :=
            (((((Fr.refl _ w3).setCell (.inl (by simp)) _).setCell (.inl (by simp)) _).setCell (.inl (by simp)) _).setCell (.inl (by simp)) _).setCell (.inl (by simp)) _
          have G : ModAt (((((w3.setCell ⟨wr.heap.size, 0, none⟩ (.int .i64 r)).setCell ⟨wr.heap.size, 1, none⟩ (.int .i64 p)).setCell ⟨wr.heap.size, 2, none⟩ (.int .i64 u)).setCell ⟨wr.heap.size, 3, none⟩ (.int .i64 l3)).setCell ⟨wr.heap.size, 4, none⟩ (.int .u64 t3)) wr.heap.size r p u l3 t3 :=
            heap_setCell_eq (i := 4) (u := .int .u64 t3) (heap_setCell_eq (i := 3) (u := .int .i64 l3) (heap_setCell_eq (i := 2) (u := .int .i64 u) (heap_setCell_eq (i := 1) (u := .int .i64 p) (heap_setCell_eq (i := 0) (u := .int .i64 r) nz))))
          exact ⟨⟨l, t, F.keep (b := M) mo3 (by simp only [List.mem_singleton]; omega)⟩, G, F.keep (b := b3) bk3 (by simp only [List.mem_singleton]; omega), inv3, ((((hfr.alloc _).drew).then1 f3 (.inr (by omega))).then1 F (.inr (by omega))), ac3.keep F (by omega) (by intro x hx; simp only [List.mem_singleton] at hx; omega), by omega, hM, by omega, by omega⟩
      case rest =>
        obtain ⟨b2, Q, l2, t2, rfl, rfl, rfl, P⟩ := hcut
        clear m0 m1 m2 m3 m4 c0 c1 c2 hA1 hA2 hbk hmo hac hfr hinv hlb hlm hBw hBw1
        have hbk := P.bk
        have hinv := P.inv
        have hac := P.ac
        have hfr := P.fr
        have hnx := P.nx
        have hb0 := P.b0
        have hne := P.ne
        have hnq := P.nq
        obtain ⟨l0, t0, hmo⟩ := P.mo
        clear P
        obtain ⟨tb1, tb2⟩ := hinv.lbd
        have v0 := hinv.l2
        have v1 := hinv.t2
        have hz : (if 0 < l2 then l2 else 0) = max 0 l2 := by split <;> omega
        have z0 : 0 ≤ max 0 l2 := by omega
        have z1 : max 0 l2 ≤ 1000000000 := by omega
        have htk := fun (wz : World) (hwz : BkAt wz b2 r p u l2 t2) => tokens_yes hwz hinv t2 (Int.le_refl _) v1 (max 0 l2 / p) (by rw [lvl_same v0])
        generalize max 0 l2 = Z at *
        have y0 : 0 ≤ Z / p := Int.ediv_nonneg (by omega) (by omega)
        have y1 : Z / p ≤ 1000000000 := Int.le_trans (Int.ediv_le_self _ (by omega)) (by omega)
        have x1 : IntKind.i64.wrap (Z.tdiv p) = Z / p := by rw [Int.tdiv_eq_ediv_of_nonneg (by omega)]; exact IntWalk.i64_in _ (by omega)
        have x0 : (p == 0) = false := by simp; omega
        have x2 : ¬ p = 0 := by omega
        have HT := Lib.hid htk
        clear htk
        obtain ⟨m0, m1, m2, m3, m4⟩ := hnx.cells
        have hA1 : BkAt wc.drew b2 r p u l2 t2 := hbk
        go_wp2_with fail
        go_region_held3 (fun w' => w'.cell? ⟨Q, 3, none⟩ = some (.int .i64 l2) ∧ w'.cell? ⟨Q, 4, none⟩ = some (.int .u64 t2))
          (first | (with_reducible exact ⟨q3, q4⟩) | (with_reducible exact ⟨m3, m4⟩) | go_keep)
          (first
            | (go_at_call 17; ((with_reducible refine (HT.out _ hA1).mono ?_); rintro e w4 ⟨rfl, f4⟩; have nx4 : ModAt w4 Q r p u l2 t2 := f4.keep (b := Q) (by exact hnx) (by simp); obtain ⟨q0, q1, q2, q3, q4⟩ := nx4.cells)))
        clear x1 hz
        have mo4 : ModAt w4 M r p u l0 t0 := f4.keep (b := M) (by exact hmo) (by simp)
        have bk4 : BkAt w4 b2 r p u l2 t2 := f4.keep (b := b2) (by exact hbk) (by simp)
        have fr4 : Fr [] w w4 := hfr.drew.then0 f4
        have hBc : B ≤ wc.heap.size := Nat.le_of_lt (Nat.lt_of_le_of_lt hb0 (BkAt.lt hbk))
        have hBq : Q < w4.heap.size := lt_of_heap nx4
        have ac4 : Acts40 w4 B (some ⟨ab, ao, none⟩) len A T N := Acts40.keep (w := wc.drew) (by exact hac) f4 (by exact hBc) hnil
        have hB4 : B ≤ w4.heap.size := Nat.le_trans hBc f4.size
        clear hmo hbk hfr hac hnx m0 m1 m2 m3 m4 f4 hA1
        obtain ⟨m0, m1, m2, m3, m4⟩ := mo4.cells
        have k0 := mo4.free 0
        have k1 := mo4.free 1
        have k2 := mo4.free 2
        have k3 := mo4.free 3
        have k4 := mo4.free 4
        go_wp2_with fail
        go_region
        go_wp2_with fail
        have F : Fr [M] w4 (((((w4.setCell ⟨M, 0, none⟩ (.int .i64 r)).setCell ⟨M, 1, none⟩ (.int .i64 p)).setCell ⟨M, 2, none⟩ (.int .i64 u)).setCell ⟨M, 3, none⟩ (.int .i64 l2)).setCell ⟨M, 4, none⟩ (.int .u64 t2)) :=
          (((((Fr.refl _ w4).setCell (.inl (by simp)) _).setCell (.inl (by simp)) _).setCell (.inl (by simp)) _).setCell (.inl (by simp)) _).setCell (.inl (by simp)) _
        have G : ModAt (((((w4.setCell ⟨M, 0, none⟩ (.int .i64 r)).setCell ⟨M, 1, none⟩ (.int .i64 p)).setCell ⟨M, 2, none⟩ (.int .i64 u)).setCell ⟨M, 3, none⟩ (.int .i64 l2)).setCell ⟨M, 4, none⟩ (.int .u64 t2)) M r p u l2 t2 :=
          heap_setCell_eq (i := 4) (u := .int .u64 t2) (heap_setCell_eq (i := 3) (u := .int .i64 l2) (heap_setCell_eq (i := 2) (u := .int .i64 u) (heap_setCell_eq (i := 1) (u := .int .i64 p) (heap_setCell_eq (i := 0) (u := .int .i64 r) mo4))))
        go_roundg (gk - 1)
        case measure => omega
        case rel =>
          refine ⟨k + 1, b2, l2, t2, by omega, by go_num, rfl, ?_⟩
          exact Pl.drew ⟨G, F.keep (b := b2) bk4 (by simp only [List.mem_singleton]; omega), hinv, (fr4.then1 F (.inr (by omega))), ac4.keep F hB4 (by intro x hx; simp only [List.mem_singleton] at hx; omega), hb0, hM, hne⟩
    · have hk' : len ≤ k := by omega
      have hfr := P.fr
      go_wp2_with fail
      refine (known_yes _).mono ?_
      rintro e w5 ⟨rfl, f5⟩
      go_wp2_with fail
      go_ret
      exact ⟨rfl, hfr.then0 f5⟩

theorem plays_walk {r p u now : Int} {a : Option Addr} {len cap : Nat} (w : World) (h0 : 0 ≤ now) (h1 : now ≤ 18446744073709551615) (h : len ≤ maxLen ∧ ∃ A T N, Acts40 w w.heap.size a len A T N) :
    Calls Try.prog 6 #[.int .i64 r, .int .i64 p, .int .i64 u, .int .u64 now, .slice a len cap] w fun e w' => e = .returned (.bool true) ∧ Fr [] w w' := by
  obtain ⟨hl, A, T, N, hs⟩ := h
  by_cases hk : ¬ Val r p u now ∨ 20 < len
  · exact plays_known w hl hk
  · exact plays_loop w (by omega) (Classical.byContradiction fun k => hk (.inl k)) h0 h1 hs
end Go.Proofs.Ytdndabklcenndaa
