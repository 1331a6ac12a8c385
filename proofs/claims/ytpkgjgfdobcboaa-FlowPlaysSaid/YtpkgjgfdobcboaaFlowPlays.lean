/-
  FlowPlays: the results of any calls, and the buffer and the ends after each of them, are the reference's.
-/
import Derived.Test.YtpkgjgfdobcboaaDoWrite13
import Derived.Test.YtpkgjgfdobcboaaMeetSplits
import Derived.Test.YtpkgjgfdobcboaaRing04Any
namespace Go.Proofs.Ytpkgjgfdobcboaa
open Go.RowKit
set_option maxRecDepth 100000

/-- What holds between two calls. -/
structure P13 (w wr : World) (X b R D : Nat) (m : FM) (a : Option Addr) (cap : Nat) (A : List A12) : Prop where
  fl : Fl wr b R D m
  x : X ≠ b ∧ X ≠ R ∧ X ≠ D
  old : w.heap.size ≤ X ∧ w.heap.size ≤ b ∧ w.heap.size ≤ R ∧ w.heap.size ≤ D
  cell : wr.heap[X]? = some (.cells #[.int .i64 m.c, .string (st m.s), .int .i64 m.w, .int .i64 m.r] 132 (0, 0))
  fr : Fr [] w wr
  acts : Acts12 wr w.heap.size a A.length cap A
theorem P13.keep0 {w wr w' : World} {X b R D : Nat} {m : FM} {a : Option Addr} {cap : Nat} {A : List A12} (h : P13 w wr X b R D m a cap A) (f : Fr [] wr w') : P13 w w' X b R D m a cap A :=
  ⟨h.fl.keep0 f, h.x, h.old, f.keep h.cell (by simp), h.fr.then0 f, h.acts.keep f (by simp)⟩
section
variable {w : World} {b R D : Nat} {m : FM}
theorem flow_len_q (h : Fl w b R D m) (n : Nat) : Calls Try.prog 81 #[.pointer (some ⟨b, 0, none⟩)] (w.drewN n) fun e w' => e = .returned (.int .i64 m.s.length) ∧ w' = w.drewN n := calls_sym (flow_len (h.drewN_ n))
theorem flow_free_q (h : Fl w b R D m) (n : Nat) : Calls Try.prog 86 #[.pointer (some ⟨b, 0, none⟩)] (w.drewN n) fun e w' => e = .returned (.int .i64 ((m.c : Int) - m.s.length)) ∧ w' = w.drewN n := calls_sym (flow_free (h.drewN_ n))
theorem flow_cap_q (h : Fl w b R D m) (n : Nat) : Calls Try.prog 90 #[.pointer (some ⟨b, 0, none⟩)] (w.drewN n) fun e w' => e = .returned (.int .i64 m.c) ∧ w' = w.drewN n := calls_sym (flow_cap (h.drewN_ n))
end

set_option maxHeartbeats 4000000 in
theorem flowPlays_main (c : Nat) {a : Option Addr} {len cap : Nat} {A : List A12} (w : World) (hc1 : 1 ≤ c) (hc2 : c ≤ 4096) (hA : Acts12 w w.heap.size a len cap A) (hs : smallB A = true) :
    Calls Try.prog 21 #[.int .i64 c, .slice a len cap] w fun e w' => e = .returned (.bool true) ∧ Fr [] w w' := by
  have hle := hA.len_eq
  subst hle
  have hSM := small13 hA
  rw [hs] at hSM
  have h80 : A.length ≤ 80 ∧ ∀ x ∈ A, okA x = true := by
    unfold smallB at hs
    rw [Bool.and_eq_true] at hs
    have h1 : A.length ≤ 80 := by simpa using hs.1
    refine ⟨h1, ?_⟩
    have := hs.2
    rw [List.take_of_length_le (by omega)] at this
    simpa using this
  have HOK := Lib.hid h80.2
  have hl80 : (A.length : Int) ≤ 80 := by omega
  have HSM := Lib.hid hSM
  clear hSM h80 hs
  go_enter Try.func21, Try.ntmps21
  go_wp2_with fail
  refine HSM.out.mono ?_
  rintro e w' ⟨rfl, rfl⟩
  go_wp2_with fail
  refine (flow_new c w hc1 hc2).mono ?_
  rintro e w1 ⟨b, R, D, rfl, g1, vb, vR, vD, h1⟩
  go_wp2_with fail
  refine (ref13_new c w1 hc1 hc2).mono ?_
  rintro e w2 ⟨rfl, f2⟩
  have hbd := h1.bd
  have z2 := f2.size
  have fX : Fr [] w2 (w2.alloc (.cells #[.int .i64 c, .string (st []), .int .i64 0, .int .i64 0] 132)) := (Fr.refl _ _).alloc _
  have p0 : P13 w (w2.alloc (.cells #[.int .i64 c, .string (st []), .int .i64 0, .int .i64 0] 132)) w2.heap.size b R D ⟨c, [], 0, 0⟩ a cap A :=
    ⟨(h1.keep0 f2).keep0 fX, ⟨by omega, by omega, by omega⟩, ⟨by have := g1.size; omega, vb, vR, vD⟩, newA rfl, (g1.then0 f2).then0 fX, ((hA.keep g1 (by simp)).keep f2 (by simp)).keep fX (by simp)⟩
  clear h1 g1 f2 fX hA hbd z2 vb vR vD HSM
  unfold refF
  go_wp2_with fail
  generalize hw0 : (w2.alloc (.cells #[.int .i64 c, .string (st []), .int .i64 0, .int .i64 0] 132)) = w0 at *
  generalize hX : w2.heap.size = X at *
  clear hw0 hX
  go_loopw [5, 43] (fun vf i wr => ∃ (k b R D : Nat) (m : FM), k ≤ A.length ∧ i = .int .i64 k ∧ vf = .pointer (some ⟨b, 0, none⟩) ∧ P13 w wr X b R D m a cap A) (fun _ i _ => A.length - (intOf i).toNat)
  case atStart => exact ⟨0, _, _, _, _, by omega, rfl, rfl, p0⟩
  case round =>
    clear p0
    obtain ⟨k, b, R, D, m, hk, rfl, rfl, P⟩ := hrel
    by_cases hlt : (k : Int) < A.length
    · have hkA : k < A.length := by omega
      obtain ⟨ab, ao, pa, pl, pc, rfl, habB, hab, c0, c1, c2, c3, hss, hwhat, hn, hwth⟩ := P.acts.at_ k hkA
      have hok := HOK.out A[k] (List.getElem_mem hkA)
      generalize hAk : A[k] = ak at *
      obtain ⟨what, n, wth, ps⟩ := ak
      dsimp only at c0 c1 c2 c3 hss hok hwhat hn hwth
      clear hAk
      obtain ⟨hp30, hp400⟩ := okA_iff _ hok
      dsimp only at hp30 hp400
      have htot : tot ps ≤ 12000 := by have := tot_le_mul ps hp400; omega
      have hmx : ∀ p ∈ ps, p.length ≤ 1000000 := fun p hp => by have := hp400 p hp; omega
      clear hok hp400 hwhat
      have fb : Fr [] wr (wr.alloc (.cells #[.int .i64 what, .int .i64 n, .slice pa pl pc, .int .i64 wth] 121)) := (Fr.refl _ _).alloc _
      have hbx : (wr.alloc (.cells #[.int .i64 what, .int .i64 n, .slice pa pl pc, .int .i64 wth] 121)).heap[wr.heap.size]? = some (.cells #[.int .i64 what, .int .i64 n, .slice pa pl pc, .int .i64 wth] 121 (0, 0)) := newA rfl
      have P_b := P.keep0 fb
      have hss_b := hss.keep fb (by simp)
      clear fb P hss
      generalize hwb : (wr.alloc (.cells #[.int .i64 what, .int .i64 n, .slice pa pl pc, .int .i64 wth] 121)) = wb at *
      have HC := Lib.hid (fun wh => df_any (what := wh) (wth := wth) (n := n) P_b.fl ⟨P_b.old.2.2.1, P_b.old.2.2.2⟩ hss_b hp30 htot hmx)
      unfold DfPost refF at HC
      have hcX := P_b.cell
      obtain ⟨x0, x1, x2, x3, _, _, _, _⟩ := fl4 hbx
      obtain ⟨y0, y1, y2, y3, _, _, _, _⟩ := fl4 hcX
      have HP := Lib.hid P_b
      clear hbx hss_b hmx hn hwth htot hp30 hcX P_b
      go_wp2_with fail
      refine (HC.out _).mono ?_
      rintro e w2 ⟨b2, R2, D2, m2, rfl, hb2, h2, f2⟩
      have P := HP.out
      have hXb := lt_of_heap P.cell
      have kX := f2.keep P.cell (by simp; exact P.x)
      have g2 : Fr [] w w2 := P.fr.trans f2 (by simp) (by have := P.old; simp; omega)
      have a2 := P.acts.keep f2 (by have := P.old; simp; omega)
      have hz2 := P.fr.size
      have hx2 : (X ≠ b2 ∧ X ≠ R2 ∧ X ≠ D2) ∧ (w.heap.size ≤ X ∧ w.heap.size ≤ b2 ∧ w.heap.size ≤ R2 ∧ w.heap.size ≤ D2) := by
        have h1 := P.x
        have h2 := P.old
        rcases hb2 with ⟨rfl, rfl, rfl⟩ | ⟨h3, h4, h5⟩
        · exact ⟨h1, h2⟩
        · exact ⟨⟨by omega, by omega, by omega⟩, ⟨h2.1, by omega, by omega, by omega⟩⟩
      clear HC HP P f2 y0 y1 y2 y3 x0 x1 x2 x3 hwb hb2 hXb hz2
      obtain ⟨c2, s2, wd2, r2⟩ := m2
      dsimp only
      obtain ⟨y0, y1, y2, y3, j0, j1, j2, j3⟩ := fl4 kX
      have F : Fr [X] w2 ((((w2.setCell ⟨X, 0, none⟩ (.int .i64 c2)).setCell ⟨X, 1, none⟩ (.string (st s2))).setCell ⟨X, 2, none⟩ (.int .i64 wd2)).setCell ⟨X, 3, none⟩ (.int .i64 r2)) := ((((Fr.refl _ w2).setCell (.inl (by simp)) _).setCell (.inl (by simp)) _).setCell (.inl (by simp)) _).setCell (.inl (by simp)) _
      have k3 : ((((w2.setCell ⟨X, 0, none⟩ (.int .i64 c2)).setCell ⟨X, 1, none⟩ (.string (st s2))).setCell ⟨X, 2, none⟩ (.int .i64 wd2)).setCell ⟨X, 3, none⟩ (.int .i64 r2)).heap[X]? = some (.cells #[.int .i64 c2, .string (st s2), .int .i64 wd2, .int .i64 r2] 132 (0, 0)) := set4 kX
      have P3 : Hid (P13 w ((((w2.setCell ⟨X, 0, none⟩ (.int .i64 c2)).setCell ⟨X, 1, none⟩ (.string (st s2))).setCell ⟨X, 2, none⟩ (.int .i64 wd2)).setCell ⟨X, 3, none⟩ (.int .i64 r2)) X b2 R2 D2 ⟨c2, s2, wd2, r2⟩ (some ⟨ab, ao, none⟩) cap A) :=
        Lib.hid ⟨h2.keep F (by simpa using Ne.symm hx2.1.1) (by simpa using Ne.symm hx2.1.2.1) (by simpa using Ne.symm hx2.1.2.2), hx2.1, hx2.2, k3, g2.trans F (by simp) (by simpa using hx2.2.1), a2.keep F (by simpa using hx2.2.1)⟩
      clear F h2 g2 a2 kX k3 hx2
      go_wp2_with fail
      generalize hw3 : ((((w2.setCell ⟨X, 0, none⟩ (.int .i64 c2)).setCell ⟨X, 1, none⟩ (.string (st s2))).setCell ⟨X, 2, none⟩ (.int .i64 wd2)).setCell ⟨X, 3, none⟩ (.int .i64 r2)) = w3 at *
      clear hw3 y0 y1 y2 y3 j0 j1 j2 j3
      refine (flow_closed P3.out.fl).mono ?_
      rintro e w4 ⟨rfl, f4⟩
      have P4' := Lib.hid (P3.out.keep0 f4)
      clear P3 f4
      obtain ⟨y0, y1, y2, y3, _, _, _, _⟩ := fl4 P4'.out.cell
      have hbd := P4'.out.fl.bd
      dsimp only at hbd y0 y1 y2 y3 ⊢
      have HHL := Lib.hid (flow_len_q P4'.out.fl)
      have HHF := Lib.hid (flow_free_q P4'.out.fl)
      have HHC := Lib.hid (flow_cap_q P4'.out.fl)
      dsimp only at HHL HHF HHC
      have i1 : (s2.length : Int) ≤ c2 := by omega
      have i2 : (c2 : Int) ≤ 4096 := by omega
      clear hbd
      go_wp2_with fail
      go_quiet ((first | (go_at_call 81; exact Calls.quiet_of_same (HHL.out _)) | (go_at_call 90; exact Calls.quiet_of_same (HHC.out _)) | (go_at_call 86; exact Calls.quiet_of_same (HHF.out _))))
      go_wp2_with fail
      go_roundw
      case rel => exact ⟨k + 1, b2, R2, D2, ⟨c2, s2, wd2, r2⟩, by omega, by go_num, rfl, P4'.out.keep0 ((Fr.refl _ _).drewN _)⟩
      case measure => simp [intOf]; omega
    · have g := P.fr
      clear P
      go_wp2_with fail
      refine (known13 _).mono ?_
      rintro e w99 ⟨rfl, f99⟩
      go_wp2_with fail
      go_ret
      exact ⟨rfl, g.then0 f99⟩

theorem flowPlays_bad (c : Int) {a : Option Addr} {len cap : Nat} {A : List A12} (w : World) (hc : c < 1 ∨ 4096 < c) (hA : Acts12 w w.heap.size a len cap A) (hs : smallB A = true) :
    Calls Try.prog 21 #[.int .i64 c, .slice a len cap] w fun e w' => e = .returned (.bool true) ∧ Fr [] w w' := by
  have hSM := small13 hA
  rw [hs] at hSM
  have HSM := Lib.hid hSM
  have HC := Lib.hid hc
  clear hSM hs hc hA
  go_enter Try.func21, Try.ntmps21
  go_wp2_with fail
  refine HSM.out.mono ?_
  rintro e w' ⟨rfl, rfl⟩
  go_wp2_with fail
  refine (flow_new_bad c w HC.out).mono ?_
  rintro e w1 ⟨rfl, rfl⟩
  go_wp2_with fail
  refine (ref13_new_bad c w HC.out).mono ?_
  rintro e w2 ⟨rfl, f2⟩
  unfold refF
  go_wp2_with fail
  refine (known13 _).mono ?_
  rintro e w99 ⟨rfl, f99⟩
  go_wp2_with fail
  go_ret
  exact ⟨rfl, (f2.alloc _).then0 f99⟩
theorem flowPlays_walk {a : Option Addr} {len cap : Nat} (c : Int) (w : World) (h : ∃ A, Acts12 w w.heap.size a len cap A) :
    Calls Try.prog 21 #[.int .i64 c, .slice a len cap] w fun e w' => e = .returned (.bool true) ∧ Fr [] w w' := by
  obtain ⟨A, hA⟩ := h
  by_cases hs : smallB A = true
  · by_cases hc : 1 ≤ c ∧ c ≤ 4096
    · obtain ⟨n, rfl⟩ := Int.eq_ofNat_of_zero_le (show 0 ≤ c by omega)
      exact flowPlays_main n w (by omega) (by omega) hA hs
    · exact flowPlays_bad c w (by omega) hA hs
  · have hs' : smallB A = false := by simpa using hs
    have HSM := small13 hA
    rw [hs'] at HSM
    have HS := Lib.hid HSM
    clear HSM hs hs' hA
    go_enter Try.func21, Try.ntmps21
    go_wp2_with fail
    refine HS.out.mono ?_
    rintro e w' ⟨rfl, rfl⟩
    go_wp2_with fail
    refine (known13 _).mono ?_
    rintro e w' ⟨rfl, f⟩
    go_wp2_with fail
    go_ret
    exact ⟨rfl, f⟩
end Go.Proofs.Ytpkgjgfdobcboaa
