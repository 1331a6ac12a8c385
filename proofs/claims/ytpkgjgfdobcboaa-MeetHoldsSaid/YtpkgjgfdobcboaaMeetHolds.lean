/-
  MeetHolds: the bytes that are taken from an offer are its first ones, in order.
-/
import Derived.Test.YtpkgjgfdobcboaaMeetSplits
namespace Go.Proofs.Ytpkgjgfdobcboaa
open Go.RowKit
set_option maxRecDepth 100000

/-- What holds between two calls: t was taken. -/
structure MHI (m : MM) (t : List UInt8) (cl : Bool) : Prop where
  closed : cl = true ↔ (m.r ≠ 0 ∨ m.w ≠ 0)
  none_ : m.off = false → t = [] ∧ m.s = []
  taken : m.off = true → m.tk = t.length
  bound : (t ++ m.s).length ≤ 65536
theorem take_pre (t s : List UInt8) : ((t ++ s).take t.length == t) = true := by simp
theorem take_pre2 (t O R : List UInt8) : ((t ++ (O ++ R)).take (t.length + O.length) == t ++ O) = true := by
  rw [← List.append_assoc, beq_iff_eq, ← List.length_append, List.take_left']
  rfl

theorem mTake_cases (m : MM) (n : Int) : (∃ er : Int, mTake m n = ⟨m, [], er⟩ ∧ er ≠ 0) ∨ (n = 0 ∧ mTake m n = ⟨m, [], 0⟩) ∨ (0 < n ∧ m.r = 0 ∧ m.w = 0 ∧ m.s ≠ [] ∧ mTake m n = ⟨⟨m.r, m.w, m.off, m.s.drop n.toNat, m.tk + (m.s.take n.toNat).length⟩, m.s.take n.toNat, 0⟩) := by
  unfold mTake
  by_cases h1 : n < 0
  · exact .inl ⟨2, by rw [if_pos h1], by decide⟩
  rw [if_neg h1]
  by_cases h2 : n = 0
  · exact .inr (.inl ⟨h2, by rw [if_pos h2]⟩)
  rw [if_neg h2]
  by_cases h3 : m.r = 0
  · by_cases h4 : m.w = 0
    · by_cases h5 : m.s = []
      · exact .inl ⟨16, by rw [if_neg (by simp [h3]), if_neg (by simp [h4]), if_pos h5], by decide⟩
      · exact .inr (.inr ⟨by omega, h3, h4, h5, by rw [if_neg (by simp [h3]), if_neg (by simp [h4]), if_neg h5]⟩)
    · exact .inl ⟨m.w, by rw [if_neg (by simp [h3]), if_pos h4], h4⟩
  · exact .inl ⟨m.r, by rw [if_pos h3], h3⟩
def strLen : Value → Nat
  | .string b => b.size
  | _ => 0
@[go_sem] theorem strLen_st (l : List UInt8) : strLen (.string (st l)) = l.length := st_size l
theorem st_get (l : List UInt8) (i : Nat) (h : i < (st l).size) : (st l)[i] = l[i]'(by rwa [st_size] at h) := rfl
theorem app_ne (t s : List UInt8) (h : s ≠ []) : (t == t ++ s) = false := by simpa using h

set_option maxHeartbeats 16000000 in
theorem meetHolds_main {a : Option Addr} {len cap : Nat} {A : List A12} (w : World) (hA : Acts12 w w.heap.size a len cap A) (hs : smallB A = true) :
    Calls Try.prog 14 #[.slice a len cap] w fun e w' => e = .returned (.bool true) ∧ Fr [] w w' := by
  have hle := hA.len_eq
  subst hle
  have hSM := small12 hA
  rw [hs] at hSM
  have h80 : A.length ≤ 80 ∧ ∀ x ∈ A, okA x = true := by
    unfold smallB at hs
    rw [Bool.and_eq_true] at hs
    have h1 : A.length ≤ 80 := by simpa using hs.1
    refine ⟨h1, ?_⟩
    have := hs.2
    rw [List.take_of_length_le (by omega)] at this
    simpa using this
  have HOK := Lib.hid h80.2
  have hl80 : (A.length : Int) ≤ 80 := by omega
  have HSM := Lib.hid hSM
  clear hSM h80 hs
  go_enter Try.func14, Try.ntmps14
  go_wp2_with fail
  refine HSM.out.mono ?_
  rintro e w' ⟨rfl, rfl⟩
  go_wp2_with fail
  refine (meet_new w).mono ?_
  rintro e w1 ⟨rfl, g1, h1⟩
  have a1 := hA.keep g1 (by simp)
  generalize hB0 : w.heap.size = B at *
  have hBl : w.heap.size ≤ B := by omega
  have hBr : B ≤ w.heap.size := by omega
  clear hB0 HSM hA
  go_wp2_with fail
  go_loopw [4, 5, 6, 7, 28] (fun vo vt vi vc i wr => ∃ (k : Nat) (m : MM) (t : List UInt8) (cl : Bool), k ≤ A.length ∧ i = .int .i64 k ∧ vo = .string (st (t ++ m.s)) ∧ vt = .string (st t) ∧ vi = .bool m.off ∧ vc = .bool cl ∧ Hid (MHI m t cl) ∧ Mt wr (fun x => x ≠ B) B m ∧ Fr [] w wr ∧ Acts12 wr B a A.length cap A) (fun _ _ _ _ i _ => A.length - (intOf i).toNat)
  case atStart => exact ⟨0, ⟨0, 0, false, [], 0⟩, [], false, by omega, rfl, rfl, rfl, rfl, rfl, Lib.hid ⟨by simp, by simp, by simp, by simp⟩, h1, g1, a1⟩
  case round =>
    obtain ⟨k, m, t, cl, hk, rfl, rfl, rfl, rfl, rfl, HI, h_wr, g_wr, a_wr⟩ := hrel
    clear h1 g1 a1
    obtain ⟨r, wd, off, s, tk⟩ := m
    by_cases hlt : (k : Int) < A.length
    · have hkA : k < A.length := by omega
      obtain ⟨ab, ao, pa, pl, pc, rfl, habB, hab, c0, c1, c2, c3, hss, ⟨w1a, w1b⟩, ⟨w2a, w2b⟩, ⟨w3a, w3b⟩⟩ := a_wr.at_ k hkA
      have hok := HOK.out A[k] (List.getElem_mem hkA)
      generalize hAk : A[k] = ak at *
      obtain ⟨what, n, wth, ps⟩ := ak
      dsimp only at c0 c1 c2 c3 hss hok w1a w1b w2a w2b w3a w3b
      clear hAk
      obtain ⟨hp30, hp400⟩ := okA_iff _ hok
      dsimp only at hp30 hp400
      have htot : tot ps ≤ 12000 := by have := tot_le_mul ps hp400; omega
      have htot' : tot ps ≤ 1000000 := by omega
      have hmx : Hid (∀ p ∈ ps, p.length ≤ 1000000) := Lib.hid fun p hp => by have := hp400 p hp; omega
      have hbd : (t.length : Int) + s.length ≤ 65536 := by have := HI.out.bound; rw [List.length_append] at this; dsimp only at this; omega
      have hpl := hss.len_eq
      subst hpl
      clear hok hp400
      -- the copy of the call, and its cells
      have fb : Fr [] wr (wr.alloc (.cells #[.int .i64 what, .int .i64 n, .slice pa ps.length pc, .int .i64 wth] 95)) := (Fr.refl _ _).alloc _
      have hX : wr.heap.size < (wr.alloc (.cells #[.int .i64 what, .int .i64 n, .slice pa ps.length pc, .int .i64 wth] 95)).heap.size := by simp
      have hbx : (wr.alloc (.cells #[.int .i64 what, .int .i64 n, .slice pa ps.length pc, .int .i64 wth] 95)).heap[wr.heap.size]? = some (.cells #[.int .i64 what, .int .i64 n, .slice pa ps.length pc, .int .i64 wth] 95 (0, 0)) := newA rfl
      have HB := Lib.hid (And.intro fb hbx)
      have h_wb := h_wr.keep0 fb
      have g_wb := g_wr.then0 fb
      have a_wb := a_wr.keep fb (by simp)
      have hss_b := hss.keep fb (by simp)
      have hBX : B < wr.heap.size := h_wr.lt
      clear fb hX hbx h_wr a_wr hss
      generalize hwb : (wr.alloc (.cells #[.int .i64 what, .int .i64 n, .slice pa ps.length pc, .int .i64 wth] 95)) = wb at *

      obtain ⟨fb, hbx⟩ := HB.out
      have x0 : wb.cell? ⟨wr.heap.size, 0, none⟩ = some (.int .i64 what) := cell_of hbx
      have x1 : wb.cell? ⟨wr.heap.size, 1, none⟩ = some (.int .i64 n) := cell_of hbx
      have x2 : wb.cell? ⟨wr.heap.size, 2, none⟩ = some (.slice pa ps.length pc) := cell_of hbx
      have x3 : wb.cell? ⟨wr.heap.size, 3, none⟩ = some (.int .i64 wth) := cell_of hbx
      clear HB
      by_cases q0 : what = 0
      · as_aux_lemma =>
        subst q0
        go_wp2_with fail
        refine (of12 hss_b.sl rfl (by omega) hmx.out (by have := own_len ps; omega) (by omega)).mono ?_
        rintro e wo ⟨rv, rfl, f, hrp⟩
        have h_wo := h_wb.keep0 f
        have hrp' := hrp.mono (N' := fun x => x ≠ B) (fun x hx => by have := h_wb.lt; omega)
        have bxo := f.keep hbx (by simp)
        have hss_o := hss_b.keep f (by simp)
        have g_wo := g_wb.then0 f
        have a_wo := a_wb.keep f (by simp)
        clear hbx
        have hbx := bxo
        clear h_wb g_wb a_wb hss_b f hrp bxo x0 x1 x2 x3 hwb
        cases off
        · by_cases hr : r = 0
          · subst hr
            by_cases hw : wd = 0
            · subst hw
              have hclf : cl = false := by cases cl; rfl; exact absurd (HI.out.closed.1 rfl) (by simp)
              subst hclf
              have E1 : mOfferR ⟨0, 0, false, s, tk⟩ (own ps).flatten = ⟨⟨0, 0, true, ps.flatten, 0⟩, 0⟩ := by rw [own_flat]; simp [mOfferR]
              have C1 := Lib.hid (offer_mm h_wo hrp')
              rw [E1] at C1
              clear E1
              go_wp2_with fail
              refine C1.out.mono ?_
              rintro e wp ⟨rfl, f, h_wp⟩
              replace h_wp : Mt wp (fun x => x ≠ B) B ⟨0, 0, true, ps.flatten, 0⟩ := h_wp
              have hsz := g_wo.size
              have bx := f.keep hbx (by simp; omega)
              have y0 : wp.cell? ⟨wr.heap.size, 0, none⟩ = some (.int .i64 0) := cell_of bx
              have y1 : wp.cell? ⟨wr.heap.size, 1, none⟩ = some (.int .i64 n) := cell_of bx
              have y2 : wp.cell? ⟨wr.heap.size, 2, none⟩ = some (.slice pa ps.length pc) := cell_of bx
              have y3 : wp.cell? ⟨wr.heap.size, 3, none⟩ = some (.int .i64 wth) := cell_of bx
              have a_wp := a_wo.keep f (by simp)
              have g_wp : Fr [] w wp := g_wo.trans f (by simp) (by simp; omega)
              clear C1 h_wo a_wo g_wo

              have hss_p := hss_o.keep f (by simp)
              clear f hss_o
              go_wp2_with fail
              refine (text12 hss_p htot' (by omega)).mono ?_
              rintro e wq ⟨rfl, f⟩
              have h_wq := h_wp.keep0 f
              have a_wq := a_wp.keep f (by simp)
              have g_wq := g_wp.then0 f
              clear h_wp a_wp g_wp f
              go_wp2_with fail
              go_roundw
              case rel => exact ⟨k + 1, ⟨0, 0, true, ps.flatten, 0⟩, [], false, by omega, by go_num, rfl, rfl, rfl, rfl, Lib.hid ⟨by simp, by simp, by simp, by simpa [tot] using (by unfold tot at htot; omega : ps.flatten.length ≤ 65536)⟩, h_wq, g_wq, a_wq⟩
              case measure => simp [intOf]; omega

            · have hclt : cl = true := HI.out.closed.2 (.inr hw)
              subst hclt
              obtain ⟨n1, n2⟩ := ne0 hw
              have E1 : mOfferR ⟨0, wd, false, s, tk⟩ (own ps).flatten = ⟨⟨0, wd, false, s, tk⟩, 14⟩ := by simp [mOfferR, hw]
              have C1 := Lib.hid (offer_mm h_wo hrp')
              rw [E1] at C1
              clear E1
              go_wp2_with fail
              refine C1.out.mono ?_
              rintro e wp ⟨rfl, f, h_wp⟩
              replace h_wp : Mt wp (fun x => x ≠ B) B ⟨0, wd, false, s, tk⟩ := h_wp
              have hsz := g_wo.size
              have bx := f.keep hbx (by simp; omega)
              have y0 : wp.cell? ⟨wr.heap.size, 0, none⟩ = some (.int .i64 0) := cell_of bx
              have y1 : wp.cell? ⟨wr.heap.size, 1, none⟩ = some (.int .i64 n) := cell_of bx
              have y2 : wp.cell? ⟨wr.heap.size, 2, none⟩ = some (.slice pa ps.length pc) := cell_of bx
              have y3 : wp.cell? ⟨wr.heap.size, 3, none⟩ = some (.int .i64 wth) := cell_of bx
              have a_wp := a_wo.keep f (by simp)
              have g_wp : Fr [] w wp := g_wo.trans f (by simp) (by simp; omega)
              clear C1 h_wo a_wo g_wo

              clear f
              have K2 := take_pre t s
              go_wp2_with fail
              go_roundw
              case rel => exact ⟨k + 1, ⟨0, wd, false, s, tk⟩, t, true, by omega, by go_num, rfl, rfl, rfl, rfl, Lib.hid HI.out, h_wp, g_wp, a_wp⟩
              case measure => simp [intOf]; omega

          · have hclt : cl = true := HI.out.closed.2 (.inl hr)
            subst hclt
            obtain ⟨n1, n2⟩ := ne0 hr
            have E1 : mOfferR ⟨r, wd, false, s, tk⟩ (own ps).flatten = ⟨⟨r, wd, false, s, tk⟩, r⟩ := by simp [mOfferR, hr]
            have C1 := Lib.hid (offer_mm h_wo hrp')
            rw [E1] at C1
            clear E1
            go_wp2_with fail
            refine C1.out.mono ?_
            rintro e wp ⟨rfl, f, h_wp⟩
            replace h_wp : Mt wp (fun x => x ≠ B) B ⟨r, wd, false, s, tk⟩ := h_wp
            have hsz := g_wo.size
            have bx := f.keep hbx (by simp; omega)
            have y0 : wp.cell? ⟨wr.heap.size, 0, none⟩ = some (.int .i64 0) := cell_of bx
            have y1 : wp.cell? ⟨wr.heap.size, 1, none⟩ = some (.int .i64 n) := cell_of bx
            have y2 : wp.cell? ⟨wr.heap.size, 2, none⟩ = some (.slice pa ps.length pc) := cell_of bx
            have y3 : wp.cell? ⟨wr.heap.size, 3, none⟩ = some (.int .i64 wth) := cell_of bx
            have a_wp := a_wo.keep f (by simp)
            have g_wp : Fr [] w wp := g_wo.trans f (by simp) (by simp; omega)
            clear C1 h_wo a_wo g_wo

            clear f
            have K2 := take_pre t s
            go_wp2_with fail
            go_roundw
            case rel => exact ⟨k + 1, ⟨r, wd, false, s, tk⟩, t, true, by omega, by go_num, rfl, rfl, rfl, rfl, Lib.hid HI.out, h_wp, g_wp, a_wp⟩
            case measure => simp [intOf]; omega

        · have E1 : mOfferR ⟨r, wd, true, s, tk⟩ (own ps).flatten = ⟨⟨r, wd, true, s, tk⟩, 11⟩ := by simp [mOfferR]
          have C1 := Lib.hid (offer_mm h_wo hrp')
          rw [E1] at C1
          clear E1
          go_wp2_with fail
          refine C1.out.mono ?_
          rintro e wp ⟨rfl, f, h_wp⟩
          replace h_wp : Mt wp (fun x => x ≠ B) B ⟨r, wd, true, s, tk⟩ := h_wp
          have hsz := g_wo.size
          have bx := f.keep hbx (by simp; omega)
          have y0 : wp.cell? ⟨wr.heap.size, 0, none⟩ = some (.int .i64 0) := cell_of bx
          have y1 : wp.cell? ⟨wr.heap.size, 1, none⟩ = some (.int .i64 n) := cell_of bx
          have y2 : wp.cell? ⟨wr.heap.size, 2, none⟩ = some (.slice pa ps.length pc) := cell_of bx
          have y3 : wp.cell? ⟨wr.heap.size, 3, none⟩ = some (.int .i64 wth) := cell_of bx
          have a_wp := a_wo.keep f (by simp)
          have g_wp : Fr [] w wp := g_wo.trans f (by simp) (by simp; omega)
          clear C1 h_wo a_wo g_wo

          clear f
          have K2 := take_pre t s
          go_wp2_with fail
          go_roundw
          case rel => exact ⟨k + 1, ⟨r, wd, true, s, tk⟩, t, cl, by omega, by go_num, rfl, rfl, rfl, rfl, Lib.hid HI.out, h_wp, g_wp, a_wp⟩
          case measure => simp [intOf]; omega

      by_cases q4 : what = 4
      · as_aux_lemma =>
        subst q4
        clear hss_b
        by_cases hx : wth = 0 ∨ wd ≠ 0
        · have hev : ∃ er : Int, mCloseW ⟨r, wd, off, s, tk⟩ wth = ⟨⟨r, wd, off, s, tk⟩, er⟩ ∧ (er == 0) = false := by
            unfold mCloseW
            by_cases h1 : wth = 0
            · exact ⟨2, by rw [if_pos h1], by decide⟩
            · exact ⟨8, by rw [if_neg h1, if_pos (hx.resolve_left h1)], by decide⟩
          obtain ⟨er, hev, her⟩ := hev
          have E1 : mCloseW ⟨r, wd, off, s, tk⟩ wth = ⟨⟨r, wd, off, s, tk⟩, er⟩ := by exact hev
          have C1 := Lib.hid (closew_mm h_wb wth)
          rw [E1] at C1
          clear E1
          go_wp2_with fail
          refine C1.out.mono ?_
          rintro e wp ⟨rfl, f, h_wp⟩
          replace h_wp : Mt wp (fun x => x ≠ B) B ⟨r, wd, off, s, tk⟩ := h_wp
          have hsz := g_wb.size
          have bx := f.keep hbx (by simp; omega)
          have y0 : wp.cell? ⟨wr.heap.size, 0, none⟩ = some (.int .i64 4) := cell_of bx
          have y1 : wp.cell? ⟨wr.heap.size, 1, none⟩ = some (.int .i64 n) := cell_of bx
          have y2 : wp.cell? ⟨wr.heap.size, 2, none⟩ = some (.slice pa ps.length pc) := cell_of bx
          have y3 : wp.cell? ⟨wr.heap.size, 3, none⟩ = some (.int .i64 wth) := cell_of bx
          have a_wp := a_wb.keep f (by simp)
          have g_wp : Fr [] w wp := g_wb.trans f (by simp) (by simp; omega)
          clear C1 h_wb a_wb g_wb

          clear f hev
          have K2 := take_pre t s
          go_wp2_with fail
          go_roundw
          case rel => exact ⟨k + 1, ⟨r, wd, off, s, tk⟩, t, cl, by omega, by go_num, rfl, rfl, rfl, rfl, Lib.hid HI.out, h_wp, g_wp, a_wp⟩
          case measure => simp [intOf]; omega

        · have hx1 : wth ≠ 0 := fun h => hx (.inl h)
          have hx2 : wd = 0 := Classical.byContradiction fun h => hx (.inr h)
          subst hx2
          have E1 : mCloseW ⟨r, 0, off, s, tk⟩ wth = ⟨⟨r, wth, off, s, tk⟩, 0⟩ := by simp [mCloseW, hx1]
          have C1 := Lib.hid (closew_mm h_wb wth)
          rw [E1] at C1
          clear E1
          go_wp2_with fail
          refine C1.out.mono ?_
          rintro e wp ⟨rfl, f, h_wp⟩
          replace h_wp : Mt wp (fun x => x ≠ B) B ⟨r, wth, off, s, tk⟩ := h_wp
          have hsz := g_wb.size
          have bx := f.keep hbx (by simp; omega)
          have y0 : wp.cell? ⟨wr.heap.size, 0, none⟩ = some (.int .i64 4) := cell_of bx
          have y1 : wp.cell? ⟨wr.heap.size, 1, none⟩ = some (.int .i64 n) := cell_of bx
          have y2 : wp.cell? ⟨wr.heap.size, 2, none⟩ = some (.slice pa ps.length pc) := cell_of bx
          have y3 : wp.cell? ⟨wr.heap.size, 3, none⟩ = some (.int .i64 wth) := cell_of bx
          have a_wp := a_wb.keep f (by simp)
          have g_wp : Fr [] w wp := g_wb.trans f (by simp) (by simp; omega)
          clear C1 h_wb a_wb g_wb

          clear f
          have K2 := take_pre t s
          go_wp2_with fail
          go_roundw
          case rel => exact ⟨k + 1, ⟨r, wth, off, s, tk⟩, t, true, by omega, by go_num, rfl, rfl, rfl, rfl, Lib.hid ⟨by simp [hx1], HI.out.none_, HI.out.taken, HI.out.bound⟩, h_wp, g_wp, a_wp⟩
          case measure => simp [intOf]; omega

      by_cases q5 : what = 5
      · as_aux_lemma =>
        subst q5
        clear hss_b
        by_cases hx : wth = 0 ∨ r ≠ 0
        · have hev : ∃ er : Int, mCloseR ⟨r, wd, off, s, tk⟩ wth = ⟨⟨r, wd, off, s, tk⟩, er⟩ ∧ (er == 0) = false := by
            unfold mCloseR
            by_cases h1 : wth = 0
            · exact ⟨2, by rw [if_pos h1], by decide⟩
            · exact ⟨8, by rw [if_neg h1, if_pos (hx.resolve_left h1)], by decide⟩
          obtain ⟨er, hev, her⟩ := hev
          have E1 : mCloseR ⟨r, wd, off, s, tk⟩ wth = ⟨⟨r, wd, off, s, tk⟩, er⟩ := by exact hev
          have C1 := Lib.hid (closer_mm h_wb wth)
          rw [E1] at C1
          clear E1
          go_wp2_with fail
          refine C1.out.mono ?_
          rintro e wp ⟨rfl, f, h_wp⟩
          replace h_wp : Mt wp (fun x => x ≠ B) B ⟨r, wd, off, s, tk⟩ := h_wp
          have hsz := g_wb.size
          have bx := f.keep hbx (by simp; omega)
          have y0 : wp.cell? ⟨wr.heap.size, 0, none⟩ = some (.int .i64 5) := cell_of bx
          have y1 : wp.cell? ⟨wr.heap.size, 1, none⟩ = some (.int .i64 n) := cell_of bx
          have y2 : wp.cell? ⟨wr.heap.size, 2, none⟩ = some (.slice pa ps.length pc) := cell_of bx
          have y3 : wp.cell? ⟨wr.heap.size, 3, none⟩ = some (.int .i64 wth) := cell_of bx
          have a_wp := a_wb.keep f (by simp)
          have g_wp : Fr [] w wp := g_wb.trans f (by simp) (by simp; omega)
          clear C1 h_wb a_wb g_wb

          clear f hev
          have K2 := take_pre t s
          go_wp2_with fail
          go_roundw
          case rel => exact ⟨k + 1, ⟨r, wd, off, s, tk⟩, t, cl, by omega, by go_num, rfl, rfl, rfl, rfl, Lib.hid HI.out, h_wp, g_wp, a_wp⟩
          case measure => simp [intOf]; omega

        · have hx1 : wth ≠ 0 := fun h => hx (.inl h)
          have hx2 : r = 0 := Classical.byContradiction fun h => hx (.inr h)
          subst hx2
          have E1 : mCloseR ⟨0, wd, off, s, tk⟩ wth = ⟨⟨wth, wd, off, s, tk⟩, 0⟩ := by simp [mCloseR, hx1]
          have C1 := Lib.hid (closer_mm h_wb wth)
          rw [E1] at C1
          clear E1
          go_wp2_with fail
          refine C1.out.mono ?_
          rintro e wp ⟨rfl, f, h_wp⟩
          replace h_wp : Mt wp (fun x => x ≠ B) B ⟨wth, wd, off, s, tk⟩ := h_wp
          have hsz := g_wb.size
          have bx := f.keep hbx (by simp; omega)
          have y0 : wp.cell? ⟨wr.heap.size, 0, none⟩ = some (.int .i64 5) := cell_of bx
          have y1 : wp.cell? ⟨wr.heap.size, 1, none⟩ = some (.int .i64 n) := cell_of bx
          have y2 : wp.cell? ⟨wr.heap.size, 2, none⟩ = some (.slice pa ps.length pc) := cell_of bx
          have y3 : wp.cell? ⟨wr.heap.size, 3, none⟩ = some (.int .i64 wth) := cell_of bx
          have a_wp := a_wb.keep f (by simp)
          have g_wp : Fr [] w wp := g_wb.trans f (by simp) (by simp; omega)
          clear C1 h_wb a_wb g_wb

          clear f
          have K2 := take_pre t s
          go_wp2_with fail
          go_roundw
          case rel => exact ⟨k + 1, ⟨wth, wd, off, s, tk⟩, t, true, by omega, by go_num, rfl, rfl, rfl, rfl, Lib.hid ⟨by simp [hx1], HI.out.none_, HI.out.taken, HI.out.bound⟩, h_wp, g_wp, a_wp⟩
          case measure => simp [intOf]; omega

      by_cases q1 : what = 1
      · as_aux_lemma =>
        subst q1
        clear hss_b
        rcases mTake_cases ⟨r, wd, off, s, tk⟩ n with ⟨er, hev, her⟩ | ⟨hn0, hev⟩ | ⟨hn0, hr0, hw0, hs0, hev⟩
        · obtain ⟨er1, er2⟩ := ne0 her
          have E1 : mTake ⟨r, wd, off, s, tk⟩ n = ⟨⟨r, wd, off, s, tk⟩, [], er⟩ := by exact hev
          have C1 := Lib.hid (take_mm h_wb n)
          rw [E1] at C1
          clear E1
          go_wp2_with fail
          refine C1.out.mono ?_
          rintro e wp ⟨u, rfl, f, ob, h_wp⟩
          replace h_wp : Mt wp (fun x => x ≠ B) B ⟨r, wd, off, s, tk⟩ := h_wp
          have hsz := g_wb.size
          have bx := f.keep hbx (by simp; omega)
          have y0 : wp.cell? ⟨wr.heap.size, 0, none⟩ = some (.int .i64 1) := cell_of bx
          have y1 : wp.cell? ⟨wr.heap.size, 1, none⟩ = some (.int .i64 n) := cell_of bx
          have y2 : wp.cell? ⟨wr.heap.size, 2, none⟩ = some (.slice pa ps.length pc) := cell_of bx
          have y3 : wp.cell? ⟨wr.heap.size, 3, none⟩ = some (.int .i64 wth) := cell_of bx
          have a_wp := a_wb.keep f (by simp)
          have g_wp : Fr [] w wp := g_wb.trans f (by simp) (by simp; omega)
          clear C1 h_wb a_wb g_wb

          clear f hev
          obtain ⟨ga, gc, rfl, _, _, hsl, _⟩ := ob.formB
          have hcv := fun c => conv_st (cap := c) hsl rfl
          try simp only [List.length_nil] at hcv
          clear ob hsl
          have K2 := take_pre t s
          go_wp2_with fail
          go_roundw
          case rel => exact ⟨k + 1, ⟨r, wd, off, s, tk⟩, t, cl, by omega, by go_num, rfl, rfl, rfl, rfl, Lib.hid HI.out, h_wp, g_wp, a_wp⟩
          case measure => simp [intOf]; omega

        · subst hn0
          have E1 : mTake ⟨r, wd, off, s, tk⟩ 0 = ⟨⟨r, wd, off, s, tk⟩, [], 0⟩ := by exact hev
          have C1 := Lib.hid (take_mm h_wb 0)
          rw [E1] at C1
          clear E1
          go_wp2_with fail
          refine C1.out.mono ?_
          rintro e wp ⟨u, rfl, f, ob, h_wp⟩
          replace h_wp : Mt wp (fun x => x ≠ B) B ⟨r, wd, off, s, tk⟩ := h_wp
          have hsz := g_wb.size
          have bx := f.keep hbx (by simp; omega)
          have y0 : wp.cell? ⟨wr.heap.size, 0, none⟩ = some (.int .i64 1) := cell_of bx
          have y1 : wp.cell? ⟨wr.heap.size, 1, none⟩ = some (.int .i64 0) := cell_of bx
          have y2 : wp.cell? ⟨wr.heap.size, 2, none⟩ = some (.slice pa ps.length pc) := cell_of bx
          have y3 : wp.cell? ⟨wr.heap.size, 3, none⟩ = some (.int .i64 wth) := cell_of bx
          have a_wp := a_wb.keep f (by simp)
          have g_wp : Fr [] w wp := g_wb.trans f (by simp) (by simp; omega)
          clear C1 h_wb a_wb g_wb

          clear f hev
          obtain ⟨ga, gc, rfl, _, _, hsl, _⟩ := ob.formB
          have hcv := fun c => conv_st (cap := c) hsl rfl
          try simp only [List.length_nil] at hcv
          clear ob hsl
          have K2 := take_pre t s
          go_wp2_with fail
          go_roundw
          case rel => exact ⟨k + 1, ⟨r, wd, off, s, tk⟩, t, cl, by omega, by go_num, rfl, rfl, rfl, rfl, Lib.hid HI.out, h_wp, g_wp, a_wp⟩
          case measure => simp [intOf]; omega

        · dsimp only at hr0 hw0 hs0 hev
          subst hr0
          subst hw0
          have hclf : cl = false := by cases cl; rfl; exact absurd (HI.out.closed.1 rfl) (by simp)
          subst hclf
          have hoff : off = true := by cases off; exact absurd (HI.out.none_ rfl).2 hs0; rfl
          subst hoff
          obtain ⟨O, hO⟩ : ∃ O, s.take n.toNat = O := ⟨_, rfl⟩
          obtain ⟨R, hR⟩ : ∃ R, s.drop n.toNat = R := ⟨_, rfl⟩
          have hsOR : s = O ++ R := by rw [← hO, ← hR, List.take_append_drop]
          have hOn : (O.length : Int) ≤ n := by rw [← hO, List.length_take]; omega
          have hOp : 0 < O.length := by
            rw [← hO, List.length_take]
            have := List.length_pos_iff.2 hs0
            omega
          have hO0 : ((O.length : Int) == 0) = false := by rw [beq_eq_false_iff_ne]; omega
          have hn1 : (n != 0) = true := by rw [bne_iff_ne]; omega
          rw [hO, hR] at hev
          clear hO hR hs0
          subst hsOR
          have hbd1 : (t.length : Int) + O.length + R.length ≤ 65536 := by rw [List.length_append] at hbd; omega
          clear hbd
          have E1 : mTake ⟨0, 0, true, O ++ R, tk⟩ n = ⟨⟨0, 0, true, R, tk + O.length⟩, O, 0⟩ := by exact hev
          have C1 := Lib.hid (take_mm h_wb n)
          rw [E1] at C1
          clear E1
          go_wp2_with fail
          refine C1.out.mono ?_
          rintro e wp ⟨u, rfl, f, ob, h_wp⟩
          replace h_wp : Mt wp (fun x => x ≠ B) B ⟨0, 0, true, R, tk + O.length⟩ := h_wp
          have hsz := g_wb.size
          have bx := f.keep hbx (by simp; omega)
          have y0 : wp.cell? ⟨wr.heap.size, 0, none⟩ = some (.int .i64 1) := cell_of bx
          have y1 : wp.cell? ⟨wr.heap.size, 1, none⟩ = some (.int .i64 n) := cell_of bx
          have y2 : wp.cell? ⟨wr.heap.size, 2, none⟩ = some (.slice pa ps.length pc) := cell_of bx
          have y3 : wp.cell? ⟨wr.heap.size, 3, none⟩ = some (.int .i64 wth) := cell_of bx
          have a_wp := a_wb.keep f (by simp)
          have g_wp : Fr [] w wp := g_wb.trans f (by simp) (by simp; omega)
          clear C1 h_wb a_wb g_wb

          clear f hev
          obtain ⟨ga, gc, rfl, _, _, hsl, _⟩ := ob.formB
          have hcv := fun c => conv_st (cap := c) hsl rfl
          try simp only [List.length_nil] at hcv
          clear ob hsl
          have K2 := take_pre2 t O R
          have K3 : (t ++ O).length ≤ (t ++ (O ++ R)).length := by simp
          go_wp2_with fail
          go_roundw
          case rel => exact ⟨k + 1, ⟨0, 0, true, R, tk + O.length⟩, (t ++ O), false, by omega, by go_num, by rw [List.append_assoc], rfl, rfl, rfl, Lib.hid ⟨by simp, by simp, fun _ => by have := HI.out.taken rfl; dsimp only at this ⊢; rw [this, List.length_append], by have := HI.out.bound; simp at this ⊢; omega⟩, h_wp, g_wp, a_wp⟩
          case measure => simp [intOf]; omega

      by_cases q2 : what = 2
      · as_aux_lemma =>
        subst q2
        clear hss_b
        cases off
        · have E1 : mResult ⟨r, wd, false, s, tk⟩ = ⟨⟨r, wd, false, s, tk⟩, 0, 9⟩ := by simp [mResult, mWithdraw]
          have C1 := Lib.hid (result_mm h_wb)
          rw [E1] at C1
          clear E1
          go_wp2_with fail
          refine C1.out.mono ?_
          rintro e wp ⟨rfl, f, h_wp⟩
          replace h_wp : Mt wp (fun x => x ≠ B) B ⟨r, wd, false, s, tk⟩ := h_wp
          have hsz := g_wb.size
          have bx := f.keep hbx (by simp; omega)
          have y0 : wp.cell? ⟨wr.heap.size, 0, none⟩ = some (.int .i64 2) := cell_of bx
          have y1 : wp.cell? ⟨wr.heap.size, 1, none⟩ = some (.int .i64 n) := cell_of bx
          have y2 : wp.cell? ⟨wr.heap.size, 2, none⟩ = some (.slice pa ps.length pc) := cell_of bx
          have y3 : wp.cell? ⟨wr.heap.size, 3, none⟩ = some (.int .i64 wth) := cell_of bx
          have a_wp := a_wb.keep f (by simp)
          have g_wp : Fr [] w wp := g_wb.trans f (by simp) (by simp; omega)
          clear C1 h_wb a_wb g_wb

          clear f
          have K2 := take_pre t s
          go_wp2_with fail
          go_roundw
          case rel => exact ⟨k + 1, ⟨r, wd, false, s, tk⟩, t, cl, by omega, by go_num, rfl, rfl, rfl, rfl, Lib.hid HI.out, h_wp, g_wp, a_wp⟩
          case measure => simp [intOf]; omega

        · obtain htk : tk = t.length := HI.out.taken rfl
          subst htk
          by_cases hcl : r = 0 ∧ wd = 0
          · obtain ⟨hr0, hw0⟩ := hcl
            subst hr0
            subst hw0
            have hclf : cl = false := by cases cl; rfl; exact absurd (HI.out.closed.1 rfl) (by simp)
            subst hclf
            by_cases hs0 : s = []
            · subst hs0
              have E1 : mResult ⟨0, 0, true, [], t.length⟩ = ⟨⟨0, 0, false, [], 0⟩, t.length, 0⟩ := by simp [mResult, mWithdraw]
              have C1 := Lib.hid (result_mm h_wb)
              rw [E1] at C1
              clear E1
              go_wp2_with fail
              refine C1.out.mono ?_
              rintro e wp ⟨rfl, f, h_wp⟩
              replace h_wp : Mt wp (fun x => x ≠ B) B ⟨0, 0, false, [], 0⟩ := h_wp
              have hsz := g_wb.size
              have bx := f.keep hbx (by simp; omega)
              have y0 : wp.cell? ⟨wr.heap.size, 0, none⟩ = some (.int .i64 2) := cell_of bx
              have y1 : wp.cell? ⟨wr.heap.size, 1, none⟩ = some (.int .i64 n) := cell_of bx
              have y2 : wp.cell? ⟨wr.heap.size, 2, none⟩ = some (.slice pa ps.length pc) := cell_of bx
              have y3 : wp.cell? ⟨wr.heap.size, 3, none⟩ = some (.int .i64 wth) := cell_of bx
              have a_wp := a_wb.keep f (by simp)
              have g_wp : Fr [] w wp := g_wb.trans f (by simp) (by simp; omega)
              clear C1 h_wb a_wb g_wb

              clear f
              go_wp2_with fail
              go_roundw
              case rel => exact ⟨k + 1, ⟨0, 0, false, [], 0⟩, [], false, by omega, by go_num, rfl, rfl, rfl, rfl, Lib.hid ⟨by simp, by simp, by simp, by simp⟩, h_wp, g_wp, a_wp⟩
              case measure => simp [intOf]; omega

            · have K3 := app_ne t s hs0
              have E1 : mResult ⟨0, 0, true, s, t.length⟩ = ⟨⟨0, 0, true, s, t.length⟩, 0, 16⟩ := by simp [mResult, mWithdraw, hs0]
              have C1 := Lib.hid (result_mm h_wb)
              rw [E1] at C1
              clear E1
              go_wp2_with fail
              refine C1.out.mono ?_
              rintro e wp ⟨rfl, f, h_wp⟩
              replace h_wp : Mt wp (fun x => x ≠ B) B ⟨0, 0, true, s, t.length⟩ := h_wp
              have hsz := g_wb.size
              have bx := f.keep hbx (by simp; omega)
              have y0 : wp.cell? ⟨wr.heap.size, 0, none⟩ = some (.int .i64 2) := cell_of bx
              have y1 : wp.cell? ⟨wr.heap.size, 1, none⟩ = some (.int .i64 n) := cell_of bx
              have y2 : wp.cell? ⟨wr.heap.size, 2, none⟩ = some (.slice pa ps.length pc) := cell_of bx
              have y3 : wp.cell? ⟨wr.heap.size, 3, none⟩ = some (.int .i64 wth) := cell_of bx
              have a_wp := a_wb.keep f (by simp)
              have g_wp : Fr [] w wp := g_wb.trans f (by simp) (by simp; omega)
              clear C1 h_wb a_wb g_wb

              clear f
              have K2 := take_pre t s
              go_wp2_with fail
              go_roundw
              case rel => exact ⟨k + 1, ⟨0, 0, true, s, t.length⟩, t, false, by omega, by go_num, rfl, rfl, rfl, rfl, Lib.hid HI.out, h_wp, g_wp, a_wp⟩
              case measure => simp [intOf]; omega

          · have hclt : cl = true := HI.out.closed.2 (by by_cases h : r = 0; exact .inr (fun h2 => hcl ⟨h, h2⟩); exact .inl h)
            subst hclt
            have E1 : mResult ⟨r, wd, true, s, t.length⟩ = ⟨⟨r, wd, false, [], 0⟩, t.length, 0⟩ := by unfold mResult mWithdraw; rw [if_neg (fun h => hcl ⟨h.2.1, h.2.2.1⟩), if_pos rfl]
            have C1 := Lib.hid (result_mm h_wb)
            rw [E1] at C1
            clear E1
            go_wp2_with fail
            refine C1.out.mono ?_
            rintro e wp ⟨rfl, f, h_wp⟩
            replace h_wp : Mt wp (fun x => x ≠ B) B ⟨r, wd, false, [], 0⟩ := h_wp
            have hsz := g_wb.size
            have bx := f.keep hbx (by simp; omega)
            have y0 : wp.cell? ⟨wr.heap.size, 0, none⟩ = some (.int .i64 2) := cell_of bx
            have y1 : wp.cell? ⟨wr.heap.size, 1, none⟩ = some (.int .i64 n) := cell_of bx
            have y2 : wp.cell? ⟨wr.heap.size, 2, none⟩ = some (.slice pa ps.length pc) := cell_of bx
            have y3 : wp.cell? ⟨wr.heap.size, 3, none⟩ = some (.int .i64 wth) := cell_of bx
            have a_wp := a_wb.keep f (by simp)
            have g_wp : Fr [] w wp := g_wb.trans f (by simp) (by simp; omega)
            clear C1 h_wb a_wb g_wb

            clear f
            go_wp2_with fail
            go_roundw
            case rel => exact ⟨k + 1, ⟨r, wd, false, [], 0⟩, [], true, by omega, by go_num, rfl, rfl, rfl, rfl, Lib.hid ⟨HI.out.closed, by simp, by simp, by simp⟩, h_wp, g_wp, a_wp⟩
            case measure => simp [intOf]; omega

      by_cases q3 : what = 3
      · as_aux_lemma =>
        subst q3
        clear hss_b
        cases off
        · have E1 : mWithdraw ⟨r, wd, false, s, tk⟩ = ⟨⟨r, wd, false, s, tk⟩, 0, 9⟩ := by simp [mWithdraw]
          have C1 := Lib.hid (withdraw_mm h_wb)
          rw [E1] at C1
          clear E1
          go_wp2_with fail
          refine C1.out.mono ?_
          rintro e wp ⟨rfl, f, h_wp⟩
          replace h_wp : Mt wp (fun x => x ≠ B) B ⟨r, wd, false, s, tk⟩ := h_wp
          have hsz := g_wb.size
          have bx := f.keep hbx (by simp; omega)
          have y0 : wp.cell? ⟨wr.heap.size, 0, none⟩ = some (.int .i64 3) := cell_of bx
          have y1 : wp.cell? ⟨wr.heap.size, 1, none⟩ = some (.int .i64 n) := cell_of bx
          have y2 : wp.cell? ⟨wr.heap.size, 2, none⟩ = some (.slice pa ps.length pc) := cell_of bx
          have y3 : wp.cell? ⟨wr.heap.size, 3, none⟩ = some (.int .i64 wth) := cell_of bx
          have a_wp := a_wb.keep f (by simp)
          have g_wp : Fr [] w wp := g_wb.trans f (by simp) (by simp; omega)
          clear C1 h_wb a_wb g_wb

          clear f
          have K2 := take_pre t s
          go_wp2_with fail
          go_roundw
          case rel => exact ⟨k + 1, ⟨r, wd, false, s, tk⟩, t, cl, by omega, by go_num, rfl, rfl, rfl, rfl, Lib.hid HI.out, h_wp, g_wp, a_wp⟩
          case measure => simp [intOf]; omega

        · obtain htk : tk = t.length := HI.out.taken rfl
          subst htk
          have E1 : mWithdraw ⟨r, wd, true, s, t.length⟩ = ⟨⟨r, wd, false, [], 0⟩, t.length, 0⟩ := by simp [mWithdraw]
          have C1 := Lib.hid (withdraw_mm h_wb)
          rw [E1] at C1
          clear E1
          go_wp2_with fail
          refine C1.out.mono ?_
          rintro e wp ⟨rfl, f, h_wp⟩
          replace h_wp : Mt wp (fun x => x ≠ B) B ⟨r, wd, false, [], 0⟩ := h_wp
          have hsz := g_wb.size
          have bx := f.keep hbx (by simp; omega)
          have y0 : wp.cell? ⟨wr.heap.size, 0, none⟩ = some (.int .i64 3) := cell_of bx
          have y1 : wp.cell? ⟨wr.heap.size, 1, none⟩ = some (.int .i64 n) := cell_of bx
          have y2 : wp.cell? ⟨wr.heap.size, 2, none⟩ = some (.slice pa ps.length pc) := cell_of bx
          have y3 : wp.cell? ⟨wr.heap.size, 3, none⟩ = some (.int .i64 wth) := cell_of bx
          have a_wp := a_wb.keep f (by simp)
          have g_wp : Fr [] w wp := g_wb.trans f (by simp) (by simp; omega)
          clear C1 h_wb a_wb g_wb

          clear f
          go_wp2_with fail
          go_roundw
          case rel => exact ⟨k + 1, ⟨r, wd, false, [], 0⟩, [], cl, by omega, by go_num, rfl, rfl, rfl, rfl, Lib.hid ⟨HI.out.closed, by simp, by simp, by simp⟩, h_wp, g_wp, a_wp⟩
          case measure => simp [intOf]; omega

      have b0 : (what == 0) = false := by simpa using q0
      have b1 : (what == 1) = false := by simpa using q1
      have b2 : (what == 2) = false := by simpa using q2
      have b3 : (what == 3) = false := by simpa using q3
      have b4 : (what == 4) = false := by simpa using q4
      have b5 : (what == 5) = false := by simpa using q5
      clear hss_b
      have K2 := take_pre t s
      go_wp2_with fail
      go_roundw
      case rel => exact ⟨k + 1, ⟨r, wd, off, s, tk⟩, t, cl, by omega, by go_num, rfl, rfl, rfl, rfl, Lib.hid HI.out, h_wb, g_wb, a_wb⟩
      case measure => simp [intOf]; omega
    · by_cases hrest : cl = false ∧ off = true
      · as_aux_lemma =>
        obtain ⟨rfl, rfl⟩ := hrest
        obtain ⟨hcl, hno, htk, hbd⟩ := HI.out
        dsimp only at hcl hno htk hbd
        have hrw : r = 0 ∧ wd = 0 := by
          by_cases h1 : r = 0
          · by_cases h2 : wd = 0
            · exact ⟨h1, h2⟩
            · exact absurd (hcl.2 (.inr h2)) (by simp)
          · exact absurd (hcl.2 (.inl h1)) (by simp)
        obtain ⟨rfl, rfl⟩ := hrw
        obtain rfl := htk rfl
        obtain ⟨W, hW⟩ : ∃ W, t ++ s = W := ⟨_, rfl⟩
        have HW := Lib.hid hW
        rw [hW] at hbd
        rw [hW]
        clear hW a_wr HI hcl hno htk
        go_wp2_with fail
        go_loopw [5, 15, 16] (fun vt _ _ wr2 => ∃ (t2 s2 : List UInt8), vt = .string (st t2) ∧ Hid (t2 ++ s2 = W) ∧ Mt wr2 (fun x => x ≠ B) B ⟨0, 0, true, s2, t2.length⟩ ∧ Fr [] w wr2) (fun vt _ _ _ => W.length - strLen vt)
        case atStart => exact ⟨t, s, rfl, HW, h_wr, g_wr⟩
        case round =>
          obtain ⟨t2, s2, rfl, H2, h_2, g_2⟩ := hrel
          have hl2 : W.length = t2.length + s2.length := by rw [← H2.out, List.length_append]
          clear HW h_wr g_wr
          cases s2 with
          | nil =>
            have e2 : W.length = t2.length := by simpa using hl2
            have e2' : (W.length : Int) = t2.length := by omega
            have H3 : t2 = W := by simpa using H2.out
            subst H3
            clear H2 hl2 e2 e2'
            have E1 : mResult ⟨0, 0, true, [], t2.length⟩ = ⟨⟨0, 0, false, [], 0⟩, t2.length, 0⟩ := by simp [mResult, mWithdraw]
            have C1 := Lib.hid (result_mm h_2)
            rw [E1] at C1
            clear E1
            go_wp2_with fail
            refine C1.out.mono ?_
            rintro e wp ⟨rfl, f, h_wp⟩
            have hsz := g_2.size
            have g_wp : Fr [] w wp := g_2.trans f (by simp) (by simp; omega)
            clear C1 h_2 g_2 f h_wp
            go_wp2_with fail
            refine (known12 _).mono ?_
            rintro e w99 ⟨rfl, f99⟩
            go_wp2_with fail
            go_ret
            exact ⟨rfl, g_wp.then0 f99⟩
          | cons c R =>
            rw [List.length_cons] at hl2
            have hlt : (t2.length : Int) < W.length := by omega
            have hix : ∀ w, (Instr.index 9 (.string (st W)) (.int .i64 t2.length)).run Try.prog w = .ok (.int .u8 c.toNat) w := fun w => by
              rw [run_index_string (P := Try.prog) (w := w) 9 (st W) .i64 t2.length Try.underlying9, dif_pos ⟨by omega, by rw [st_size]; omega⟩]
              congr 3
              have := H2.out
              subst this
              simp [st_get]
            have E1 : mTake ⟨0, 0, true, c :: R, t2.length⟩ 1 = ⟨⟨0, 0, true, R, t2.length + 1⟩, [c], 0⟩ := by simp [mTake]
            have C1 := Lib.hid (take_mm h_2 1)
            rw [E1] at C1
            clear E1
            go_wp2_with fail
            refine C1.out.mono ?_
            rintro e wp ⟨u, rfl, f, ob, h_wp⟩
            have hsz := g_2.size
            have g_wp : Fr [] w wp := g_2.trans f (by simp) (by simp; omega)
            obtain ⟨ga, gc, rfl, _, _, hsl, _⟩ := ob.formB
            obtain ⟨gb, go, rfl, _, hcell⟩ := hsl (by simp [bi])
            have hc0 : ∀ N, (wp.drewN N).cell? ⟨gb, go, none⟩ = some (.int .u8 c.toNat) := fun N => by simpa [bi] using hcell 0 (by simp [bi])
            have hcv := fun N => conv_stN (len := 1) hsl rfl N gc
            clear C1 h_2 g_2 f ob hsl hcell
            go_wp2_with fail
            go_quiet (fail)
            replace g_wp : Fr [] w (wp.drewN nq) := g_wp.drewN nq
            replace h_wp : Mt (wp.drewN nq) (fun x => x ≠ B) B ⟨0, 0, true, R, t2.length + 1⟩ := h_wp
            go_wp2_with fail
            go_roundw
            case rel => exact ⟨t2 ++ [c], R, rfl, Lib.hid (by simpa using H2.out), by simpa using h_wp, g_wp⟩
            case measure => simp [strLen, st_size]; omega
      · as_aux_lemma =>
        have hcases : cl = true ∨ (cl = false ∧ off = false) := by cases cl <;> cases off <;> simp at hrest ⊢
        clear hrest HI
        rcases hcases with rfl | ⟨rfl, rfl⟩
        all_goals
          go_wp2_with fail
          refine (known12 _).mono ?_
          rintro e w99 ⟨rfl, f99⟩
          go_wp2_with fail
          go_ret
          exact ⟨rfl, g_wr.then0 f99⟩

theorem meetHolds_walk {a : Option Addr} {len cap : Nat} (w : World) (h : ∃ A, Acts12 w w.heap.size a len cap A) :
    Calls Try.prog 14 #[.slice a len cap] w fun e w' => e = .returned (.bool true) ∧ Fr [] w w' := by
  obtain ⟨A, hA⟩ := h
  by_cases hs : smallB A = true
  · exact meetHolds_main w hA hs
  · have hs' : smallB A = false := by simpa using hs
    have HSM := small12 hA
    rw [hs'] at HSM
    have HS := Lib.hid HSM
    clear HSM hs hs' hA
    go_enter Try.func14, Try.ntmps14
    go_wp2_with fail
    refine HS.out.mono ?_
    rintro e w' ⟨rfl, rfl⟩
    go_wp2_with fail
    refine (known12 _).mono ?_
    rintro e w' ⟨rfl, f⟩
    go_wp2_with fail
    go_ret
    exact ⟨rfl, f⟩
end Go.Proofs.Ytpkgjgfdobcboaa
