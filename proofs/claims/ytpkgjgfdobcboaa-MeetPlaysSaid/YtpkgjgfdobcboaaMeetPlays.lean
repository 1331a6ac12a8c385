/-
  MeetPlays: the results of any calls, and the offer and the ends after each of them, are the reference's.
-/
import Derived.Test.YtpkgjgfdobcboaaDoOffer12
import Derived.Test.YtpkgjgfdobcboaaMeetSplits
namespace Go.Proofs.Ytpkgjgfdobcboaa
open Go.RowKit
set_option maxRecDepth 100000

/-- What holds between two calls. -/
structure PI (w wr : World) (X b : Nat) (N : Nat → Prop) (m : MM) (O : List UInt8) (a : Option Addr) (cap : Nat) (A : List A12) : Prop where
  mt : Mt wr N b m
  nx : ¬ N X
  ne : b ≠ X
  old : w.heap.size ≤ b
  oldX : w.heap.size ≤ X
  cell : wr.heap[X]? = some (.cells #[.bool m.off, .string (st O), .int .i64 m.tk, .int .i64 m.w, .int .i64 m.r] 112 (0, 0))
  ok : OK12 m O
  fr : Fr [] w wr
  acts : Acts12 wr w.heap.size a A.length cap A

set_option maxHeartbeats 4000000 in
theorem meetPlays_main {a : Option Addr} {len cap : Nat} {A : List A12} (w : World) (hA : Acts12 w w.heap.size a len cap A) (hs : smallB A = true) :
    Calls Try.prog 16 #[.slice a len cap] w fun e w' => e = .returned (.bool true) ∧ Fr [] w w' := by
  have hle := hA.len_eq
  subst hle
  have hSM := small12 hA
  rw [hs] at hSM
  have h80 : A.length ≤ 80 ∧ ∀ x ∈ A, okA x = true := by
    unfold smallB at hs
    rw [Bool.and_eq_true] at hs
    have h1 : A.length ≤ 80 := by simpa using hs.1
    refine ⟨h1, ?_⟩
    have := hs.2
    rw [List.take_of_length_le (by omega)] at this
    simpa using this
  have HOK := Lib.hid h80.2
  have hl80 : (A.length : Int) ≤ 80 := by omega
  have HSM := Lib.hid hSM
  clear hSM h80 hs
  go_enter Try.func16, Try.ntmps16
  go_wp2_with fail
  refine HSM.out.mono ?_
  rintro e w' ⟨rfl, rfl⟩
  go_wp2_with fail
  refine (meet_newN w).mono ?_
  rintro e w1 ⟨rfl, g1, z1, h1⟩
  have fX : Fr [] w1 (w1.alloc (.cells #[.bool false, .string { data := #[] }, .int .i64 0, .int .i64 0, .int .i64 0] 112)) := (Fr.refl _ _).alloc _
  have p0 : PI w (w1.alloc (.cells #[.bool false, .string { data := #[] }, .int .i64 0, .int .i64 0, .int .i64 0] 112)) w1.heap.size w.heap.size (fun x => x ≠ w.heap.size ∧ x ≠ w1.heap.size) ⟨0, 0, false, [], 0⟩ [] a cap A :=
    ⟨(h1 (fun x => x ≠ w.heap.size) (by simp) (fun x hx => by omega)).narrow fX (c := w1.heap.size) (Nat.le_refl _) (by simp), by simp, by omega, Nat.le_refl _, by omega, newA rfl, OK12.new, g1.then0 fX, (hA.keep g1 (by simp)).keep fX (by simp)⟩
  clear h1 g1 fX HSM hA z1
  generalize (fun x => x ≠ w.heap.size ∧ x ≠ w1.heap.size) = N0 at p0
  go_wp2_with fail
  generalize w1.heap.size = X at *
  go_loopw [3, 22] (fun vm i wr => ∃ (k b : Nat) (N : Nat → Prop) (m : MM) (O : List UInt8), k ≤ A.length ∧ i = .int .i64 k ∧ vm = .pointer (some ⟨b, 0, none⟩) ∧ PI w wr X b N m O a cap A) (fun _ i _ => A.length - (intOf i).toNat)
  case atStart => exact ⟨0, _, _, _, _, by omega, rfl, rfl, p0⟩
  case round =>
    obtain ⟨k, b, N, m, O, hk, rfl, rfl, P⟩ := hrel
    clear p0
    obtain ⟨h_wr, hNX, hbX, hbo, hXo, hcX, hO, g_wr, a_wr⟩ := P
    by_cases hlt : (k : Int) < A.length
    · have hkA : k < A.length := by omega
      obtain ⟨ab, ao, pa, pl, pc, rfl, habB, hab, c0, c1, c2, c3, hss, hwhat, hn, hwth⟩ := a_wr.at_ k hkA
      have hok := HOK.out A[k] (List.getElem_mem hkA)
      generalize hAk : A[k] = ak at *
      obtain ⟨what, n, wth, ps⟩ := ak
      dsimp only at c0 c1 c2 c3 hss hok hwhat hn hwth
      clear hAk
      obtain ⟨hp30, hp400⟩ := okA_iff _ hok
      dsimp only at hp30 hp400
      have htot : tot ps ≤ 12000 := by have := tot_le_mul ps hp400; omega
      have hmx : ∀ p ∈ ps, p.length ≤ 1000000 := fun p hp => by have := hp400 p hp; omega
      clear hok hp400 hwhat
      -- the copy of the call
      have fb : Fr [] wr (wr.alloc (.cells #[.int .i64 what, .int .i64 n, .slice pa pl pc, .int .i64 wth] 95)) := (Fr.refl _ _).alloc _
      have hbx : (wr.alloc (.cells #[.int .i64 what, .int .i64 n, .slice pa pl pc, .int .i64 wth] 95)).heap[wr.heap.size]? = some (.cells #[.int .i64 what, .int .i64 n, .slice pa pl pc, .int .i64 wth] 95 (0, 0)) := newA rfl
      have h_wb := h_wr.keep0 fb
      have g_wb := g_wr.then0 fb
      have a_wb := a_wr.keep fb (by simp)
      have hss_b := hss.keep fb (by simp)
      have hcX_b := fb.keep hcX (by simp)
      clear fb h_wr g_wr a_wr hss hcX
      have HC := Lib.hid (fun wh => do_any (what := wh) (wth := wth) (n := n) h_wb hO hbo hss_b hp30 htot hmx hn hwth)
      generalize hwb : (wr.alloc (.cells #[.int .i64 what, .int .i64 n, .slice pa pl pc, .int .i64 wth] 95)) = wb at *
      obtain ⟨r, wd, off, s, tk⟩ := m
      unfold DoPost refV at HC
      dsimp only at HC hcX_b
      obtain ⟨x0, x1, x2, x3⟩ := cl4 hbx
      obtain ⟨y0, y1, y2, y3, y4, _, _, _, _, _⟩ := c5 hcX_b
      clear hbx hss_b hmx hn hwth htot hp30 hO
      go_wp2_with fail
      refine (HC.out _).mono ?_
      rintro e w2 ⟨N2, b2, m2, O2, rfl, hb2, h2, hO2, f2, hN2⟩
      have hXb := lt_of_heap hcX_b
      have hs2 := g_wb.size
      have kX := f2.keep hcX_b (by simpa using Ne.symm hbX)
      have g2 : Fr [] w w2 := g_wb.trans f2 (by simp) (by simpa using hbo)
      have a2 := a_wb.keep f2 (by simpa using hbo)
      have hb2X : b2 ≠ X := by omega
      have hb2o : w.heap.size ≤ b2 := by omega
      have hN2X : ¬ N2 X := fun h => hNX (hN2 X h)
      clear HC f2 a_wb g_wb h_wb hcX_b y0 y1 y2 y3 y4 x0 x1 x2 x3 hwb hb2 hbX hbo hNX hN2 hXb hs2
      obtain ⟨r2, wd2, off2, s2, tk2⟩ := m2
      obtain ⟨y0, y1, y2, y3, y4, j0, j1, j2, j3, j4⟩ := c5 kX
      have F : Fr [X] w2 (((((w2.setCell ⟨X, 0, none⟩ (.bool off2)).setCell ⟨X, 1, none⟩ (.string (st O2))).setCell ⟨X, 2, none⟩ (.int .i64 tk2)).setCell ⟨X, 3, none⟩ (.int .i64 wd2)).setCell ⟨X, 4, none⟩ (.int .i64 r2)) := (((((Fr.refl _ w2).setCell (.inl (by simp)) _).setCell (.inl (by simp)) _).setCell (.inl (by simp)) _).setCell (.inl (by simp)) _).setCell (.inl (by simp)) _
      have k3 : (((((w2.setCell ⟨X, 0, none⟩ (.bool off2)).setCell ⟨X, 1, none⟩ (.string (st O2))).setCell ⟨X, 2, none⟩ (.int .i64 tk2)).setCell ⟨X, 3, none⟩ (.int .i64 wd2)).setCell ⟨X, 4, none⟩ (.int .i64 r2)).heap[X]? = some (.cells #[.bool off2, .string (st O2), .int .i64 tk2, .int .i64 wd2, .int .i64 r2] 112 (0, 0)) := set5 kX
      have h3 := h2.keep F (by simpa using hb2X) (by simpa using hN2X)
      have g3 : Fr [] w (((((w2.setCell ⟨X, 0, none⟩ (.bool off2)).setCell ⟨X, 1, none⟩ (.string (st O2))).setCell ⟨X, 2, none⟩ (.int .i64 tk2)).setCell ⟨X, 3, none⟩ (.int .i64 wd2)).setCell ⟨X, 4, none⟩ (.int .i64 r2)) := g2.trans F (by simp) (by simpa using hXo)
      have a3 := a2.keep F (by simpa using hXo)
      clear F h2 g2 a2 kX

      have HO := Lib.hid hO2
      have HL := Lib.hid (fun w => ref_left hO2 w)
      unfold refV at HL
      dsimp only at HL
      clear hO2
      go_wp2_with fail
      generalize hw3 : (((((w2.setCell ⟨X, 0, none⟩ (.bool off2)).setCell ⟨X, 1, none⟩ (.string (st O2))).setCell ⟨X, 2, none⟩ (.int .i64 tk2)).setCell ⟨X, 3, none⟩ (.int .i64 wd2)).setCell ⟨X, 4, none⟩ (.int .i64 r2)) = w3 at *
      clear hw3 y0 y1 y2 y3 y4 j0 j1 j2 j3 j4
      refine (left_mm h3).mono ?_
      rintro e w4 ⟨rfl, f4⟩
      have h4 := h3.keep0 f4
      have k4 := f4.keep k3 (by simp)
      have g4 := g3.then0 f4
      have a4 := a3.keep f4 (by simp)
      clear h3 k3 g3 a3 f4
      go_wp2_with fail
      refine (closed_mm h4).mono ?_
      rintro e w5 ⟨rfl, f5⟩
      have h5 := h4.keep0 f5
      have k5 := f5.keep k4 (by simp)
      have g5 := g4.then0 f5
      have a5 := a4.keep f5 (by simp)
      clear h4 k4 g4 a4 f5
      obtain ⟨y0, y1, y2, y3, y4, j0, j1, j2, j3, j4⟩ := c5 k5
      go_wp2_with fail
      refine (HL.out _).mono ?_
      rintro e w6 ⟨rfl, f6⟩
      have h6 := h5.keep0 f6
      have k6 := f6.keep k5 (by simp)
      have g6 := g5.then0 f6
      have a6 := a5.keep f6 (by simp)
      clear h5 k5 g5 a5 f6 y0 y1 y2 y3 y4 j0 j1 j2 j3 j4
      obtain ⟨y0, y1, y2, y3, y4, j0, j1, j2, j3, j4⟩ := c5 k6
      go_wp2_with fail
      go_roundw
      case rel => exact ⟨k + 1, b2, N2, ⟨r2, wd2, off2, s2, tk2⟩, O2, by omega, by go_num, rfl, h6, hN2X, hb2X, hb2o, hXo, k6, HO.out, g6, a6⟩
      case measure => simp [intOf]; omega
    · clear h_wr hcX a_wr
      go_wp2_with fail
      refine (known12 _).mono ?_
      rintro e w99 ⟨rfl, f99⟩
      go_wp2_with fail
      go_ret
      exact ⟨rfl, g_wr.then0 f99⟩

theorem meetPlays_walk {a : Option Addr} {len cap : Nat} (w : World) (h : ∃ A, Acts12 w w.heap.size a len cap A) :
    Calls Try.prog 16 #[.slice a len cap] w fun e w' => e = .returned (.bool true) ∧ Fr [] w w' := by
  obtain ⟨A, hA⟩ := h
  by_cases hs : smallB A = true
  · exact meetPlays_main w hA hs
  · have hs' : smallB A = false := by simpa using hs
    have HSM := small12 hA
    rw [hs'] at HSM
    have HS := Lib.hid HSM
    clear HSM hs hs' hA
    go_enter Try.func16, Try.ntmps16
    go_wp2_with fail
    refine HS.out.mono ?_
    rintro e w' ⟨rfl, rfl⟩
    go_wp2_with fail
    refine (known12 _).mono ?_
    rintro e w' ⟨rfl, f⟩
    go_wp2_with fail
    go_ret
    exact ⟨rfl, f⟩
end Go.Proofs.Ytpkgjgfdobcboaa
