/-
  FlowHolds: what was read and what is in the buffer is what was written, in order.
-/
import Derived.Test.YtpkgjgfdobcboaaFlowSplits
import Derived.Deep.DeepCutAuto
import Derived.Deep.CutBlock
namespace Go.Proofs.Ytpkgjgfdobcboaa
open Go.RowKit
set_option maxRecDepth 100000

/-- What holds between two calls. -/
structure FHI (c k : Nat) (s Rd X : List UInt8) (r : Int) (dr : Bool) : Prop where
  closed : dr = true ↔ r ≠ 0
  open_ : dr = false → X = s
  drop : dr = true → s = []
  bound : (Rd ++ X).length ≤ k * 12000
theorem fRead_cases (c : Nat) (s : List UInt8) (wd r n : Int) : (n < 0 ∧ fRead ⟨c, s, wd, r⟩ n = ⟨⟨c, s, wd, r⟩, [], 2⟩) ∨ (n = 0 ∧ fRead ⟨c, s, wd, r⟩ n = ⟨⟨c, s, wd, r⟩, [], 0⟩) ∨ (0 < n ∧ r ≠ 0 ∧ fRead ⟨c, s, wd, r⟩ n = ⟨⟨c, s, wd, r⟩, [], r⟩) ∨
    (0 < n ∧ r = 0 ∧ s = [] ∧ wd ≠ 0 ∧ fRead ⟨c, s, wd, r⟩ n = ⟨⟨c, s, wd, r⟩, [], wd⟩) ∨ (0 < n ∧ r = 0 ∧ s = [] ∧ wd = 0 ∧ fRead ⟨c, s, wd, r⟩ n = ⟨⟨c, s, wd, r⟩, [], 16⟩) ∨
    (0 < n ∧ r = 0 ∧ s ≠ [] ∧ fRead ⟨c, s, wd, r⟩ n = ⟨⟨c, s.drop n.toNat, wd, r⟩, s.take n.toNat, 0⟩) := by
  unfold fRead
  dsimp only
  by_cases h1 : n < 0
  · exact .inl ⟨h1, by rw [if_pos h1]⟩
  rw [if_neg h1]
  by_cases h2 : n = 0
  · exact .inr (.inl ⟨h2, by rw [if_pos h2]⟩)
  rw [if_neg h2]
  have hp : 0 < n := by omega
  by_cases h3 : r ≠ 0
  · exact .inr (.inr (.inl ⟨hp, h3, by rw [if_pos h3]⟩))
  rw [if_neg h3]
  have h3' : r = 0 := by omega
  by_cases h4 : s = []
  · rw [if_neg (fun x => x h4)]
    by_cases h5 : wd = 0
    · exact .inr (.inr (.inr (.inr (.inl ⟨hp, h3', h4, h5, by rw [if_neg (by simpa using h5)]⟩))))
    · exact .inr (.inr (.inr (.inl ⟨hp, h3', h4, h5, by rw [if_pos h5]⟩)))
  · exact .inr (.inr (.inr (.inr (.inr ⟨hp, h3', h4, by rw [if_pos h4]⟩))))
theorem hold_pre (t s : List UInt8) : ((t ++ s).take t.length == t) = true := by simp
theorem hold_pre2 (t O R : List UInt8) : ((t ++ (O ++ R)).take (t.length + O.length) == t ++ O) = true := by
  rw [← List.append_assoc, beq_iff_eq, ← List.length_append, List.take_left']
  rfl
theorem hold_pre3 (t O R : List UInt8) : ((t ++ (O ++ R)).take t.length == t) = true := by simp

theorem flow_len0 {w : World} {b R D c : Nat} {x y : Int} (h : Fl w b R D ⟨c, [], x, y⟩) :
    Calls Try.prog 81 #[.pointer (some ⟨b, 0, none⟩)] w fun e w' => e = .returned (.int .i64 0) ∧ w = w' := flow_len h
theorem flow_free0 {w : World} {b R D c : Nat} {x y : Int} (h : Fl w b R D ⟨c, [], x, y⟩) :
    Calls Try.prog 86 #[.pointer (some ⟨b, 0, none⟩)] w fun e w' => e = .returned (.int .i64 c) ∧ w = w' := by
  have := flow_free h
  simpa using this

set_option maxHeartbeats 16000000 in
theorem flowHolds_main {c : Nat} {a : Option Addr} {len cap : Nat} {A : List A12} (w : World) (hc1 : 1 ≤ c) (hc2 : c ≤ 4096) (hA : Acts12 w w.heap.size a len cap A) (hs : smallB A = true) :
    Calls Try.prog 20 #[.int .i64 c, .slice a len cap] w fun e w' => e = .returned (.bool true) ∧ Fr [] w w' := by
  have hle := hA.len_eq
  subst hle
  have hSM := small13 hA
  rw [hs] at hSM
  have h80 : A.length ≤ 80 ∧ ∀ x ∈ A, okA x = true := by
    unfold smallB at hs
    rw [Bool.and_eq_true] at hs
    have h1 : A.length ≤ 80 := by simpa using hs.1
    refine ⟨h1, ?_⟩
    have := hs.2
    rw [List.take_of_length_le (by omega)] at this
    simpa using this
  have HOK := Lib.hid h80.2
  have hl80 : (A.length : Int) ≤ 80 := by omega
  have ic1 : (1 : Int) ≤ c := by omega
  have ic2 : (c : Int) ≤ 4096 := by omega
  have HSM := Lib.hid hSM
  clear hSM h80 hs
  go_enter Try.func20, Try.ntmps20
  go_wp2_with fail
  refine HSM.out.mono ?_
  rintro e w' ⟨rfl, rfl⟩
  go_wp2_with fail
  refine (flow_new c w hc1 hc2).mono ?_
  rintro e w1 ⟨b, R, D, rfl, g1, vb, vR, vD, h1⟩
  have a1 := hA.keep g1 (by simp)
  have hbd0 := h1.bd
  have HNE := Lib.hid hbd0.2.2.2.2.2.2
  clear HSM hA hbd0
  go_wp2_with fail
  go_loopw [7, 8, 9, 10, 43] (fun vo vr vw vd i wr => ∃ (k : Nat) (s Rd X : List UInt8) (wd r : Int) (dr : Bool), k ≤ A.length ∧ i = .int .i64 k ∧ vo = .string (st (Rd ++ X)) ∧ vr = .string (st Rd) ∧ vw = .int .i64 wd ∧ vd = .bool dr ∧ Hid (FHI c k s Rd X r dr) ∧ Fl wr b R D ⟨c, s, wd, r⟩ ∧ Fr [] w wr ∧ Acts12 wr w.heap.size a A.length cap A) (fun _ _ _ _ i _ => A.length - (intOf i).toNat)
  case atStart => exact ⟨0, [], [], [], 0, 0, false, by omega, rfl, rfl, rfl, rfl, rfl, Lib.hid ⟨by simp, by simp, by simp, by simp⟩, h1, g1, a1⟩
  case round =>
    obtain ⟨k, s, Rd, X, wd, r, dr, hk, rfl, rfl, rfl, rfl, rfl, HI, h_wr, g_wr, a_wr⟩ := hrel
    clear h1 g1 a1
    by_cases hlt : (k : Int) < A.length
    · have hkA : k < A.length := by omega
      obtain ⟨ab, ao, pa, pl, pc, rfl, habB, hab, c0, c1, c2, c3, hss, ⟨w1a, w1b⟩, ⟨w2a, w2b⟩, ⟨w3a, w3b⟩⟩ := a_wr.at_ k hkA
      have hok := HOK.out A[k] (List.getElem_mem hkA)
      generalize hAk : A[k] = ak at *
      obtain ⟨what, n, wth, ps⟩ := ak
      dsimp only at c0 c1 c2 c3 hss hok w1a w1b w2a w2b w3a w3b
      clear hAk
      obtain ⟨hp30, hp400⟩ := okA_iff _ hok
      dsimp only at hp30 hp400
      have htot : tot ps ≤ 12000 := by have := tot_le_mul ps hp400; omega
      have htot' : tot ps ≤ 1000000 := by omega
      have hmx : Hid (∀ p ∈ ps, p.length ≤ 1000000) := Lib.hid fun p hp => by have := hp400 p hp; omega
      have hbd : (Rd.length : Int) + X.length ≤ 960000 := by have := HI.out.bound; rw [List.length_append] at this; have : k * 12000 ≤ 79 * 12000 := Nat.mul_le_mul_right _ (by omega); omega
      have hsc : s.length ≤ c := h_wr.bd.1
      have hpl := hss.len_eq
      subst hpl
      clear hok hp400
      have fb : Fr [] wr (wr.alloc (.cells #[.int .i64 what, .int .i64 n, .slice pa ps.length pc, .int .i64 wth] 121)) := (Fr.refl _ _).alloc _
      have hbx : (wr.alloc (.cells #[.int .i64 what, .int .i64 n, .slice pa ps.length pc, .int .i64 wth] 121)).heap[wr.heap.size]? = some (.cells #[.int .i64 what, .int .i64 n, .slice pa ps.length pc, .int .i64 wth] 121 (0, 0)) := newA rfl
      have h_wb := h_wr.keep0 fb
      have g_wb := g_wr.then0 fb
      have a_wb := a_wr.keep fb (by simp)
      have hss_b := hss.keep fb (by simp)
      have hBX : b < wr.heap.size ∧ R < wr.heap.size ∧ D < wr.heap.size := by have := h_wr.bd; dsimp only at this; exact ⟨by omega, by omega, by omega⟩
      obtain ⟨hX1, hX2, hX3⟩ := hBX
      clear fb h_wr g_wr a_wr hss
      generalize hwb : (wr.alloc (.cells #[.int .i64 what, .int .i64 n, .slice pa ps.length pc, .int .i64 wth] 121)) = wb at *
      have x0 : wb.cell? ⟨wr.heap.size, 0, none⟩ = some (.int .i64 what) := cell_of hbx
      have x1 : wb.cell? ⟨wr.heap.size, 1, none⟩ = some (.int .i64 n) := cell_of hbx
      have x2 : wb.cell? ⟨wr.heap.size, 2, none⟩ = some (.slice pa ps.length pc) := cell_of hbx
      have x3 : wb.cell? ⟨wr.heap.size, 3, none⟩ = some (.int .i64 wth) := cell_of hbx
      have hdr : dr = true ∨ dr = false := by cases dr <;> simp
      go_upto_block 2 with fail
      go_cut [7, 8, 9, 10] (fun vo vr vw vd wx => ∃ (s2 Rd2 X2 : List UInt8) (wd2 r2 : Int) (dr2 : Bool), vo = .string (st (Rd2 ++ X2)) ∧ vr = .string (st Rd2) ∧ vw = .int .i64 wd2 ∧ vd = .bool dr2 ∧ Hid (FHI c (k + 1) s2 Rd2 X2 r2 dr2) ∧ Fl wx b R D ⟨c, s2, wd2, r2⟩ ∧ Fr [] w wx ∧ Acts12 wx w.heap.size (some ⟨ab, ao, none⟩) A.length cap A)
      case first =>
        by_cases q0 : what = 0
        · as_aux_lemma =>
          subst q0
          go_wp2_with fail
          refine (of13 hss_b.sl rfl (by omega) hmx.out (Nat.le_trans (List.length_filter_le _ _) (by omega)) (by omega)).mono ?_
          rintro e wo ⟨rv, rfl, f, hrp⟩
          have h_wo := h_wb.keep0 f
          have bxo := f.keep hbx (by simp)
          have hss_o := hss_b.keep f (by simp)
          have g_wo := g_wb.then0 f
          have a_wo := a_wb.keep f (by simp)
          have hzb : wr.heap.size < wb.heap.size := lt_of_heap hbx
          clear hbx
          have hbx := bxo
          obtain ⟨S, hS⟩ : ∃ S, ps.flatten = S := ⟨_, rfl⟩
          have hSl : S.length ≤ 12000 := by rw [← hS]; exact htot
          have HS := Lib.hid hS
          clear h_wb g_wb a_wb hss_b f bxo x0 x1 x2 x3 hwb hS
          have ef : (own ps).flatten = S := by rw [own_flat, HS.out]
          have HEF := Lib.hid ef
          clear ef
          rcases hdr with rfl | rfl
          · obtain rfl := HI.out.drop rfl
            have hr0 : r ≠ 0 := HI.out.closed.1 rfl
            obtain ⟨n1, n2⟩ := ne0 hr0
            clear hr0
            have E1 : fWrite ⟨c, [], wd, r⟩ (own ps).flatten = ⟨⟨c, [], wd, r⟩, 0, r⟩ := by rw [HEF.out]; have := HI.out.closed.1 rfl; simp [fWrite, this]
            have C1 := Lib.hid (flow_write h_wo hrp (by omega) (by omega))
            unfold FNPost at C1
            rw [E1] at C1
            clear E1
            go_wp2_with fail
            refine C1.out.mono ?_
            rintro e wp ⟨rfl, f, h_wp⟩
            replace h_wp : Fl wp b R D ⟨c, [], wd, r⟩ := h_wp
            have hsz := g_wo.size
            have bx := f.keep hbx (by simp; omega)
            have y0 : wp.cell? ⟨wr.heap.size, 0, none⟩ = some (.int .i64 0) := cell_of bx
            have y1 : wp.cell? ⟨wr.heap.size, 1, none⟩ = some (.int .i64 n) := cell_of bx
            have y2 : wp.cell? ⟨wr.heap.size, 2, none⟩ = some (.slice pa ps.length pc) := cell_of bx
            have y3 : wp.cell? ⟨wr.heap.size, 3, none⟩ = some (.int .i64 wth) := cell_of bx
            have a_wp := a_wo.keep f (by simp; omega)
            have g_wp : Fr [] w wp := g_wo.trans f (by simp) (by simp; omega)
            clear C1 h_wo a_wo g_wo
            have hss_p := hss_o.keep f (by simp; omega)
            clear f hss_o
            go_wp2_with fail
            refine (text13 hss_p htot' (by omega)).mono ?_
            rintro e wq ⟨rfl, f⟩
            rw [HS.out]
            have h_wq := h_wp.keep0 f
            have a_wq := a_wp.keep f (by simp)
            have g_wq := g_wp.then0 f
            clear h_wp a_wp g_wp f y0 y1 y2 y3 bx hbx
            have hrun : ∀ w, (Instr.slice 9 (.string (st S)) none (some (.int .i64 0)) none).run Try.prog w = .ok (.string (st [])) w := fun w => by simpa using run_to S 0 (by omega) w
            have K2 := hold_pre Rd X
            go_wp2_with fail
            go_meet
            exact ⟨[], Rd, X, wd, r, true, by simp, rfl, rfl, rfl, Lib.hid ⟨HI.out.closed, HI.out.open_, HI.out.drop, by have := HI.out.bound; omega⟩, h_wq, g_wq, a_wq⟩

          · have hr0 : r = 0 := Classical.byContradiction fun h => by have := HI.out.closed.2 h; simp at this
            subst hr0
            obtain rfl := HI.out.open_ rfl

            by_cases hw : wd = 0
            · subst hw
              by_cases hS0 : S = []
              · subst hS0
                have E1 : fWrite ⟨c, X, 0, 0⟩ (own ps).flatten = ⟨⟨c, X, 0, 0⟩, 0, 0⟩ := by rw [HEF.out]; simp [fWrite]
                have C1 := Lib.hid (flow_write h_wo hrp (by omega) (by omega))
                unfold FNPost at C1
                rw [E1] at C1
                clear E1
                go_wp2_with fail
                refine C1.out.mono ?_
                rintro e wp ⟨rfl, f, h_wp⟩
                replace h_wp : Fl wp b R D ⟨c, X, 0, 0⟩ := h_wp
                have hsz := g_wo.size
                have bx := f.keep hbx (by simp; omega)
                have y0 : wp.cell? ⟨wr.heap.size, 0, none⟩ = some (.int .i64 0) := cell_of bx
                have y1 : wp.cell? ⟨wr.heap.size, 1, none⟩ = some (.int .i64 n) := cell_of bx
                have y2 : wp.cell? ⟨wr.heap.size, 2, none⟩ = some (.slice pa ps.length pc) := cell_of bx
                have y3 : wp.cell? ⟨wr.heap.size, 3, none⟩ = some (.int .i64 wth) := cell_of bx
                have a_wp := a_wo.keep f (by simp; omega)
                have g_wp : Fr [] w wp := g_wo.trans f (by simp) (by simp; omega)
                clear C1 h_wo a_wo g_wo
                have hss_p := hss_o.keep f (by simp; omega)
                clear f hss_o
                go_wp2_with fail
                refine (text13 hss_p htot' (by omega)).mono ?_
                rintro e wq ⟨rfl, f⟩
                rw [HS.out]
                have h_wq := h_wp.keep0 f
                have a_wq := a_wp.keep f (by simp)
                have g_wq := g_wp.then0 f
                clear h_wp a_wp g_wp f y0 y1 y2 y3 bx hbx
                have hrun : ∀ w, (Instr.slice 9 (.string (st [])) none (some (.int .i64 0)) none).run Try.prog w = .ok (.string (st [])) w := fun w => by simpa using run_to [] 0 (by omega) w
                have K2 := hold_pre Rd X
                go_wp2_with fail
                go_meet
                exact ⟨X, Rd, X, 0, 0, false, by simp, rfl, rfl, rfl, Lib.hid ⟨HI.out.closed, HI.out.open_, HI.out.drop, by have := HI.out.bound; omega⟩, h_wq, g_wq, a_wq⟩

              · have hE : S.isEmpty = false := by simpa using hS0
                have hE2 : (S == []) = false := by simpa using hS0
                by_cases hfull : X.length = c
                · have E1 : fWrite ⟨c, X, 0, 0⟩ (own ps).flatten = ⟨⟨c, X, 0, 0⟩, 0, 16⟩ := by rw [HEF.out]; simp [fWrite, hS0, hfull]
                  have C1 := Lib.hid (flow_write h_wo hrp (by omega) (by omega))
                  unfold FNPost at C1
                  rw [E1] at C1
                  clear E1
                  go_wp2_with fail
                  refine C1.out.mono ?_
                  rintro e wp ⟨rfl, f, h_wp⟩
                  replace h_wp : Fl wp b R D ⟨c, X, 0, 0⟩ := h_wp
                  have hsz := g_wo.size
                  have bx := f.keep hbx (by simp; omega)
                  have y0 : wp.cell? ⟨wr.heap.size, 0, none⟩ = some (.int .i64 0) := cell_of bx
                  have y1 : wp.cell? ⟨wr.heap.size, 1, none⟩ = some (.int .i64 n) := cell_of bx
                  have y2 : wp.cell? ⟨wr.heap.size, 2, none⟩ = some (.slice pa ps.length pc) := cell_of bx
                  have y3 : wp.cell? ⟨wr.heap.size, 3, none⟩ = some (.int .i64 wth) := cell_of bx
                  have a_wp := a_wo.keep f (by simp; omega)
                  have g_wp : Fr [] w wp := g_wo.trans f (by simp) (by simp; omega)
                  clear C1 h_wo a_wo g_wo
                  have hss_p := hss_o.keep f (by simp; omega)
                  clear f hss_o
                  go_wp2_with fail
                  refine (text13 hss_p htot' (by omega)).mono ?_
                  rintro e wq ⟨rfl, f⟩
                  rw [HS.out]
                  have h_wq := h_wp.keep0 f
                  have a_wq := a_wp.keep f (by simp)
                  have g_wq := g_wp.then0 f
                  clear h_wp a_wp g_wp f y0 y1 y2 y3 bx hbx
                  clear hfull hS0
                  have hrun : ∀ w, (Instr.slice 9 (.string (st S)) none (some (.int .i64 0)) none).run Try.prog w = .ok (.string (st [])) w := fun w => by simpa using run_to S 0 (by omega) w
                  have K2 := hold_pre Rd X
                  go_wp2_with fail
                  go_meet
                  exact ⟨X, Rd, X, 0, 0, false, by simp, rfl, rfl, rfl, Lib.hid ⟨HI.out.closed, HI.out.open_, HI.out.drop, by have := HI.out.bound; omega⟩, h_wq, g_wq, a_wq⟩

                · obtain ⟨K, hK⟩ : ∃ K, min S.length (c - X.length) = K := ⟨_, rfl⟩
                  have hpos := List.length_pos_iff.2 hS0
                  have hK1 : 0 < K ∧ K ≤ S.length ∧ X.length + K ≤ c := by omega
                  have hT : S.take (c - X.length) = S.take K := by
                    rw [← hK]
                    by_cases h : S.length ≤ c - X.length
                    · rw [Nat.min_eq_left h, List.take_of_length_le h, List.take_of_length_le (Nat.le_refl _)]
                    · rw [Nat.min_eq_right (by omega)]
                  have hTl : (S.take K).length = K := by rw [List.length_take]; omega
                  have HW1 := Lib.hid (show fWrite ⟨c, X, 0, 0⟩ S = ⟨⟨c, X ++ S.take K, 0, 0⟩, K, 0⟩ from by unfold fWrite; rw [if_neg (by simp), if_neg (by simp), if_neg hS0, if_neg (by simpa using hfull)]; dsimp only; rw [hT, hK])
                  clear hT hK hfull hS0 hpos
                  have E1 : fWrite ⟨c, X, 0, 0⟩ (own ps).flatten = ⟨⟨c, X ++ S.take K, 0, 0⟩, K, 0⟩ := by rw [HEF.out]; exact HW1.out
                  have C1 := Lib.hid (flow_write h_wo hrp (by omega) (by omega))
                  unfold FNPost at C1
                  rw [E1] at C1
                  clear E1
                  go_wp2_with fail
                  refine C1.out.mono ?_
                  rintro e wp ⟨rfl, f, h_wp⟩
                  replace h_wp : Fl wp b R D ⟨c, X ++ S.take K, 0, 0⟩ := h_wp
                  have hsz := g_wo.size
                  have bx := f.keep hbx (by simp; omega)
                  have y0 : wp.cell? ⟨wr.heap.size, 0, none⟩ = some (.int .i64 0) := cell_of bx
                  have y1 : wp.cell? ⟨wr.heap.size, 1, none⟩ = some (.int .i64 n) := cell_of bx
                  have y2 : wp.cell? ⟨wr.heap.size, 2, none⟩ = some (.slice pa ps.length pc) := cell_of bx
                  have y3 : wp.cell? ⟨wr.heap.size, 3, none⟩ = some (.int .i64 wth) := cell_of bx
                  have a_wp := a_wo.keep f (by simp; omega)
                  have g_wp : Fr [] w wp := g_wo.trans f (by simp) (by simp; omega)
                  clear C1 h_wo a_wo g_wo
                  have hss_p := hss_o.keep f (by simp; omega)
                  clear f hss_o
                  go_wp2_with fail
                  refine (text13 hss_p htot' (by omega)).mono ?_
                  rintro e wq ⟨rfl, f⟩
                  rw [HS.out]
                  have h_wq := h_wp.keep0 f
                  have a_wq := a_wp.keep f (by simp)
                  have g_wq := g_wp.then0 f
                  clear h_wp a_wp g_wp f y0 y1 y2 y3 bx hbx

                  have hrun := run_to S K hK1.2.1
                  have k1 : ((K : Int) == 0) = false := by rw [beq_eq_false_iff_ne]; omega
                  have k2 : ¬ ((S.length : Int) < K) := by omega
                  have k3 : (K : Int) ≤ S.length := by omega
                  obtain ⟨T, hTT⟩ : ∃ T, S.take K = T := ⟨_, rfl⟩
                  rw [hTT] at hrun h_wq hTl
                  have HT := Lib.hid (And.intro hTl hTT)
                  have hTi : (T.length : Int) ≤ 12000 := by omega
                  have K2 := hold_pre3 Rd X T
                  have K4 : ((Rd ++ X ++ T).take Rd.length == Rd) = true := by rw [List.append_assoc]; exact K2
                  clear hTT hTl HW1
                  go_wp2_with fail
                  go_meet
                  exact ⟨(X ++ T), Rd, (X ++ T), 0, 0, false, by first | rfl | rw [List.append_assoc], rfl, rfl, rfl, Lib.hid ⟨HI.out.closed, fun _ => rfl, by simp, by have := HI.out.bound; have := HT.out.1; have := hK1.2.1; simp only [List.length_append] at *; omega⟩, h_wq, g_wq, a_wq⟩

            · obtain ⟨n1, n2⟩ := ne0 hw
              have E1 : fWrite ⟨c, X, wd, 0⟩ (own ps).flatten = ⟨⟨c, X, wd, 0⟩, 0, 14⟩ := by rw [HEF.out]; simp [fWrite, hw]
              have C1 := Lib.hid (flow_write h_wo hrp (by omega) (by omega))
              unfold FNPost at C1
              rw [E1] at C1
              clear E1
              go_wp2_with fail
              refine C1.out.mono ?_
              rintro e wp ⟨rfl, f, h_wp⟩
              replace h_wp : Fl wp b R D ⟨c, X, wd, 0⟩ := h_wp
              have hsz := g_wo.size
              have bx := f.keep hbx (by simp; omega)
              have y0 : wp.cell? ⟨wr.heap.size, 0, none⟩ = some (.int .i64 0) := cell_of bx
              have y1 : wp.cell? ⟨wr.heap.size, 1, none⟩ = some (.int .i64 n) := cell_of bx
              have y2 : wp.cell? ⟨wr.heap.size, 2, none⟩ = some (.slice pa ps.length pc) := cell_of bx
              have y3 : wp.cell? ⟨wr.heap.size, 3, none⟩ = some (.int .i64 wth) := cell_of bx
              have a_wp := a_wo.keep f (by simp; omega)
              have g_wp : Fr [] w wp := g_wo.trans f (by simp) (by simp; omega)
              clear C1 h_wo a_wo g_wo
              have hss_p := hss_o.keep f (by simp; omega)
              clear f hss_o
              go_wp2_with fail
              refine (text13 hss_p htot' (by omega)).mono ?_
              rintro e wq ⟨rfl, f⟩
              rw [HS.out]
              have h_wq := h_wp.keep0 f
              have a_wq := a_wp.keep f (by simp)
              have g_wq := g_wp.then0 f
              clear h_wp a_wp g_wp f y0 y1 y2 y3 bx hbx
              clear hw
              have hrun : ∀ w, (Instr.slice 9 (.string (st S)) none (some (.int .i64 0)) none).run Try.prog w = .ok (.string (st [])) w := fun w => by simpa using run_to S 0 (by omega) w
              have K2 := hold_pre Rd X
              go_wp2_with fail
              go_meet
              exact ⟨X, Rd, X, wd, 0, false, by simp, rfl, rfl, rfl, Lib.hid ⟨HI.out.closed, HI.out.open_, HI.out.drop, by have := HI.out.bound; omega⟩, h_wq, g_wq, a_wq⟩

        by_cases q2 : what = 2
        · as_aux_lemma =>
          subst q2
          clear hss_b
          rcases hdr with rfl | rfl
          · obtain rfl := HI.out.drop rfl
            have hr0 : r ≠ 0 := HI.out.closed.1 rfl
            obtain ⟨n1, n2⟩ := ne0 hr0
            clear hr0
            by_cases hx : wth = 0 ∨ wd ≠ 0
            · have hev : ∃ er : Int, fCloseW ⟨c, [], wd, r⟩ wth = ⟨⟨c, [], wd, r⟩, er⟩ ∧ (er == 0) = false := by
                unfold fCloseW
                by_cases h1 : wth = 0
                · exact ⟨2, by rw [if_pos h1], by decide⟩
                · exact ⟨8, by rw [if_neg h1, if_pos (hx.resolve_left h1)], by decide⟩
              obtain ⟨er, hev, her⟩ := hev
              have E1 : fCloseW ⟨c, [], wd, r⟩ wth = ⟨⟨c, [], wd, r⟩, er⟩ := by exact hev
              have C1 := Lib.hid (flow_closew h_wb wth)
              unfold FEPost at C1
              rw [E1] at C1
              clear E1
              go_wp2_with fail
              refine C1.out.mono ?_
              rintro e wp ⟨rfl, f, h_wp⟩
              replace h_wp : Fl wp b R D ⟨c, [], wd, r⟩ := h_wp
              have hsz := g_wb.size
              have bx := f.keep hbx (by simp; omega)
              have y0 : wp.cell? ⟨wr.heap.size, 0, none⟩ = some (.int .i64 2) := cell_of bx
              have y1 : wp.cell? ⟨wr.heap.size, 1, none⟩ = some (.int .i64 n) := cell_of bx
              have y2 : wp.cell? ⟨wr.heap.size, 2, none⟩ = some (.slice pa ps.length pc) := cell_of bx
              have y3 : wp.cell? ⟨wr.heap.size, 3, none⟩ = some (.int .i64 wth) := cell_of bx
              have a_wp := a_wb.keep f (by simp; omega)
              have g_wp : Fr [] w wp := g_wb.trans f (by simp) (by simp; omega)
              clear C1 h_wb a_wb g_wb
              clear f hev hx
              have K2 := hold_pre Rd X
              go_wp2_with fail
              go_meet
              exact ⟨[], Rd, X, wd, r, true, rfl, rfl, rfl, rfl, Lib.hid ⟨HI.out.closed, HI.out.open_, HI.out.drop, by have := HI.out.bound; omega⟩, h_wp, g_wp, a_wp⟩

            · have hx1 : wth ≠ 0 := fun h => hx (.inl h)
              have hx2 : wd = 0 := Classical.byContradiction fun h => hx (.inr h)
              subst hx2
              have E1 : fCloseW ⟨c, [], 0, r⟩ wth = ⟨⟨c, [], wth, r⟩, 0⟩ := by simp [fCloseW, hx1]
              have C1 := Lib.hid (flow_closew h_wb wth)
              unfold FEPost at C1
              rw [E1] at C1
              clear E1
              go_wp2_with fail
              refine C1.out.mono ?_
              rintro e wp ⟨rfl, f, h_wp⟩
              replace h_wp : Fl wp b R D ⟨c, [], wth, r⟩ := h_wp
              have hsz := g_wb.size
              have bx := f.keep hbx (by simp; omega)
              have y0 : wp.cell? ⟨wr.heap.size, 0, none⟩ = some (.int .i64 2) := cell_of bx
              have y1 : wp.cell? ⟨wr.heap.size, 1, none⟩ = some (.int .i64 n) := cell_of bx
              have y2 : wp.cell? ⟨wr.heap.size, 2, none⟩ = some (.slice pa ps.length pc) := cell_of bx
              have y3 : wp.cell? ⟨wr.heap.size, 3, none⟩ = some (.int .i64 wth) := cell_of bx
              have a_wp := a_wb.keep f (by simp; omega)
              have g_wp : Fr [] w wp := g_wb.trans f (by simp) (by simp; omega)
              clear C1 h_wb a_wb g_wb
              clear f hx hx1
              have K2 := hold_pre Rd X
              go_wp2_with fail
              go_meet
              exact ⟨[], Rd, X, wth, r, true, rfl, rfl, rfl, rfl, Lib.hid ⟨HI.out.closed, HI.out.open_, HI.out.drop, by have := HI.out.bound; omega⟩, h_wp, g_wp, a_wp⟩

          · have hr0 : r = 0 := Classical.byContradiction fun h => by have := HI.out.closed.2 h; simp at this
            subst hr0
            obtain rfl := HI.out.open_ rfl

            by_cases hx : wth = 0 ∨ wd ≠ 0
            · have hev : ∃ er : Int, fCloseW ⟨c, X, wd, 0⟩ wth = ⟨⟨c, X, wd, 0⟩, er⟩ ∧ (er == 0) = false := by
                unfold fCloseW
                by_cases h1 : wth = 0
                · exact ⟨2, by rw [if_pos h1], by decide⟩
                · exact ⟨8, by rw [if_neg h1, if_pos (hx.resolve_left h1)], by decide⟩
              obtain ⟨er, hev, her⟩ := hev
              have E1 : fCloseW ⟨c, X, wd, 0⟩ wth = ⟨⟨c, X, wd, 0⟩, er⟩ := by exact hev
              have C1 := Lib.hid (flow_closew h_wb wth)
              unfold FEPost at C1
              rw [E1] at C1
              clear E1
              go_wp2_with fail
              refine C1.out.mono ?_
              rintro e wp ⟨rfl, f, h_wp⟩
              replace h_wp : Fl wp b R D ⟨c, X, wd, 0⟩ := h_wp
              have hsz := g_wb.size
              have bx := f.keep hbx (by simp; omega)
              have y0 : wp.cell? ⟨wr.heap.size, 0, none⟩ = some (.int .i64 2) := cell_of bx
              have y1 : wp.cell? ⟨wr.heap.size, 1, none⟩ = some (.int .i64 n) := cell_of bx
              have y2 : wp.cell? ⟨wr.heap.size, 2, none⟩ = some (.slice pa ps.length pc) := cell_of bx
              have y3 : wp.cell? ⟨wr.heap.size, 3, none⟩ = some (.int .i64 wth) := cell_of bx
              have a_wp := a_wb.keep f (by simp; omega)
              have g_wp : Fr [] w wp := g_wb.trans f (by simp) (by simp; omega)
              clear C1 h_wb a_wb g_wb
              clear f hev hx
              have K2 := hold_pre Rd X
              go_wp2_with fail
              go_meet
              exact ⟨X, Rd, X, wd, 0, false, rfl, rfl, rfl, rfl, Lib.hid ⟨HI.out.closed, HI.out.open_, HI.out.drop, by have := HI.out.bound; omega⟩, h_wp, g_wp, a_wp⟩

            · have hx1 : wth ≠ 0 := fun h => hx (.inl h)
              have hx2 : wd = 0 := Classical.byContradiction fun h => hx (.inr h)
              subst hx2
              have E1 : fCloseW ⟨c, X, 0, 0⟩ wth = ⟨⟨c, X, wth, 0⟩, 0⟩ := by simp [fCloseW, hx1]
              have C1 := Lib.hid (flow_closew h_wb wth)
              unfold FEPost at C1
              rw [E1] at C1
              clear E1
              go_wp2_with fail
              refine C1.out.mono ?_
              rintro e wp ⟨rfl, f, h_wp⟩
              replace h_wp : Fl wp b R D ⟨c, X, wth, 0⟩ := h_wp
              have hsz := g_wb.size
              have bx := f.keep hbx (by simp; omega)
              have y0 : wp.cell? ⟨wr.heap.size, 0, none⟩ = some (.int .i64 2) := cell_of bx
              have y1 : wp.cell? ⟨wr.heap.size, 1, none⟩ = some (.int .i64 n) := cell_of bx
              have y2 : wp.cell? ⟨wr.heap.size, 2, none⟩ = some (.slice pa ps.length pc) := cell_of bx
              have y3 : wp.cell? ⟨wr.heap.size, 3, none⟩ = some (.int .i64 wth) := cell_of bx
              have a_wp := a_wb.keep f (by simp; omega)
              have g_wp : Fr [] w wp := g_wb.trans f (by simp) (by simp; omega)
              clear C1 h_wb a_wb g_wb
              clear f hx hx1
              have K2 := hold_pre Rd X
              go_wp2_with fail
              go_meet
              exact ⟨X, Rd, X, wth, 0, false, rfl, rfl, rfl, rfl, Lib.hid ⟨HI.out.closed, HI.out.open_, HI.out.drop, by have := HI.out.bound; omega⟩, h_wp, g_wp, a_wp⟩

        by_cases q3 : what = 3
        · as_aux_lemma =>
          subst q3
          clear hss_b
          rcases hdr with rfl | rfl
          · obtain rfl := HI.out.drop rfl
            have hr0 : r ≠ 0 := HI.out.closed.1 rfl
            obtain ⟨n1, n2⟩ := ne0 hr0
            clear hr0
            have hev : ∃ er : Int, fCloseR ⟨c, [], wd, r⟩ wth = ⟨⟨c, [], wd, r⟩, er⟩ ∧ (er == 0) = false := by
              unfold fCloseR
              by_cases h1 : wth = 0
              · exact ⟨2, by rw [if_pos h1], by decide⟩
              · exact ⟨8, by rw [if_neg h1, if_pos (HI.out.closed.1 rfl)], by decide⟩
            obtain ⟨er, hev, her⟩ := hev
            have E1 : fCloseR ⟨c, [], wd, r⟩ wth = ⟨⟨c, [], wd, r⟩, er⟩ := by exact hev
            have C1 := Lib.hid (flow_closer h_wb wth)
            unfold FEPost at C1
            rw [E1] at C1
            clear E1
            go_wp2_with fail
            refine C1.out.mono ?_
            rintro e wp ⟨rfl, f, h_wp⟩
            replace h_wp : Fl wp b R D ⟨c, [], wd, r⟩ := h_wp
            have hsz := g_wb.size
            have bx := f.keep hbx (by simp; omega)
            have y0 : wp.cell? ⟨wr.heap.size, 0, none⟩ = some (.int .i64 3) := cell_of bx
            have y1 : wp.cell? ⟨wr.heap.size, 1, none⟩ = some (.int .i64 n) := cell_of bx
            have y2 : wp.cell? ⟨wr.heap.size, 2, none⟩ = some (.slice pa ps.length pc) := cell_of bx
            have y3 : wp.cell? ⟨wr.heap.size, 3, none⟩ = some (.int .i64 wth) := cell_of bx
            have a_wp := a_wb.keep f (by simp; omega)
            have g_wp : Fr [] w wp := g_wb.trans f (by simp) (by simp; omega)
            clear C1 h_wb a_wb g_wb
            clear f hev
            have K2 := hold_pre Rd X
            go_wp2_with fail
            go_meet
            exact ⟨[], Rd, X, wd, r, true, rfl, rfl, rfl, rfl, Lib.hid ⟨HI.out.closed, HI.out.open_, HI.out.drop, by have := HI.out.bound; omega⟩, h_wp, g_wp, a_wp⟩

          · have hr0 : r = 0 := Classical.byContradiction fun h => by have := HI.out.closed.2 h; simp at this
            subst hr0
            obtain rfl := HI.out.open_ rfl

            by_cases hx : wth = 0
            · subst hx
              have E1 : fCloseR ⟨c, X, wd, 0⟩ 0 = ⟨⟨c, X, wd, 0⟩, 2⟩ := by simp [fCloseR]
              have C1 := Lib.hid (flow_closer h_wb 0)
              unfold FEPost at C1
              rw [E1] at C1
              clear E1
              go_wp2_with fail
              refine C1.out.mono ?_
              rintro e wp ⟨rfl, f, h_wp⟩
              replace h_wp : Fl wp b R D ⟨c, X, wd, 0⟩ := h_wp
              have hsz := g_wb.size
              have bx := f.keep hbx (by simp; omega)
              have y0 : wp.cell? ⟨wr.heap.size, 0, none⟩ = some (.int .i64 3) := cell_of bx
              have y1 : wp.cell? ⟨wr.heap.size, 1, none⟩ = some (.int .i64 n) := cell_of bx
              have y2 : wp.cell? ⟨wr.heap.size, 2, none⟩ = some (.slice pa ps.length pc) := cell_of bx
              have y3 : wp.cell? ⟨wr.heap.size, 3, none⟩ = some (.int .i64 0) := cell_of bx
              have a_wp := a_wb.keep f (by simp; omega)
              have g_wp : Fr [] w wp := g_wb.trans f (by simp) (by simp; omega)
              clear C1 h_wb a_wb g_wb
              clear f
              have K2 := hold_pre Rd X
              go_wp2_with fail
              go_meet
              exact ⟨X, Rd, X, wd, 0, false, rfl, rfl, rfl, rfl, Lib.hid ⟨HI.out.closed, HI.out.open_, HI.out.drop, by have := HI.out.bound; omega⟩, h_wp, g_wp, a_wp⟩

            · obtain ⟨m1, m2⟩ := ne0 hx
              have E1 : fCloseR ⟨c, X, wd, 0⟩ wth = ⟨⟨c, [], wd, wth⟩, 0⟩ := by simp [fCloseR, hx]
              have C1 := Lib.hid (flow_closer h_wb wth)
              unfold FEPost at C1
              rw [E1] at C1
              clear E1
              go_wp2_with fail
              refine C1.out.mono ?_
              rintro e wp ⟨rfl, f, h_wp⟩
              replace h_wp : Fl wp b R D ⟨c, [], wd, wth⟩ := h_wp
              have hsz := g_wb.size
              have bx := f.keep hbx (by simp; omega)
              have y0 : wp.cell? ⟨wr.heap.size, 0, none⟩ = some (.int .i64 3) := cell_of bx
              have y1 : wp.cell? ⟨wr.heap.size, 1, none⟩ = some (.int .i64 n) := cell_of bx
              have y2 : wp.cell? ⟨wr.heap.size, 2, none⟩ = some (.slice pa ps.length pc) := cell_of bx
              have y3 : wp.cell? ⟨wr.heap.size, 3, none⟩ = some (.int .i64 wth) := cell_of bx
              have a_wp := a_wb.keep f (by simp; omega)
              have g_wp : Fr [] w wp := g_wb.trans f (by simp) (by simp; omega)
              clear C1 h_wb a_wb g_wb
              have HX := Lib.hid hx
              clear f hx
              have K2 := hold_pre Rd X
              go_wp2_with fail
              go_meet
              exact ⟨[], Rd, X, wd, wth, true, rfl, rfl, rfl, rfl, Lib.hid ⟨by simpa using HX.out, by simp, by simp, by have := HI.out.bound; omega⟩, h_wp, g_wp, a_wp⟩

        by_cases q1 : what = 1
        · as_aux_lemma =>
          subst q1
          clear hss_b
          rcases hdr with rfl | rfl
          · obtain rfl := HI.out.drop rfl
            have hr0 : r ≠ 0 := HI.out.closed.1 rfl
            obtain ⟨n1, n2⟩ := ne0 hr0

            rcases fRead_cases c [] wd r n with ⟨hn, hev⟩ | ⟨hn, hev⟩ | ⟨hn, hr1, hev⟩ | ⟨hn, hr1, hs0, hw0, hev⟩ | ⟨hn, hr1, hs0, hw0, hev⟩ | ⟨hn, hr1, hs0, hev⟩
            · have E1 : fRead ⟨c, [], wd, r⟩ n = ⟨⟨c, [], wd, r⟩, [], 2⟩ := by exact hev
              have C1 := Lib.hid (flow_read h_wb n)
              unfold FTPost at C1
              rw [E1] at C1
              clear E1
              go_wp2_with fail
              refine C1.out.mono ?_
              rintro e wp ⟨u, rfl, f, ob, h_wp⟩
              replace h_wp : Fl wp b R D ⟨c, [], wd, r⟩ := h_wp
              have hsz := g_wb.size
              have bx := f.keep hbx (by simp; omega)
              have y0 : wp.cell? ⟨wr.heap.size, 0, none⟩ = some (.int .i64 1) := cell_of bx
              have y1 : wp.cell? ⟨wr.heap.size, 1, none⟩ = some (.int .i64 n) := cell_of bx
              have y2 : wp.cell? ⟨wr.heap.size, 2, none⟩ = some (.slice pa ps.length pc) := cell_of bx
              have y3 : wp.cell? ⟨wr.heap.size, 3, none⟩ = some (.int .i64 wth) := cell_of bx
              have a_wp := a_wb.keep f (by simp; omega)
              have g_wp : Fr [] w wp := g_wb.trans f (by simp) (by simp; omega)
              clear C1 h_wb a_wb g_wb
              clear f hev
              obtain ⟨ga, gc, rfl, _, _, hsl, _⟩ := ob.formB
              have hcv := fun c => conv_st (cap := c) hsl rfl
              try simp only [List.length_nil] at hcv
              clear ob hsl
              have K2 := hold_pre Rd X
              go_wp2_with fail
              go_meet
              exact ⟨[], Rd, X, wd, r, true, rfl, rfl, rfl, rfl, Lib.hid ⟨HI.out.closed, HI.out.open_, HI.out.drop, by have := HI.out.bound; omega⟩, h_wp, g_wp, a_wp⟩

            · subst hn
              have E1 : fRead ⟨c, [], wd, r⟩ 0 = ⟨⟨c, [], wd, r⟩, [], 0⟩ := by exact hev
              have C1 := Lib.hid (flow_read h_wb 0)
              unfold FTPost at C1
              rw [E1] at C1
              clear E1
              go_wp2_with fail
              refine C1.out.mono ?_
              rintro e wp ⟨u, rfl, f, ob, h_wp⟩
              replace h_wp : Fl wp b R D ⟨c, [], wd, r⟩ := h_wp
              have hsz := g_wb.size
              have bx := f.keep hbx (by simp; omega)
              have y0 : wp.cell? ⟨wr.heap.size, 0, none⟩ = some (.int .i64 1) := cell_of bx
              have y1 : wp.cell? ⟨wr.heap.size, 1, none⟩ = some (.int .i64 0) := cell_of bx
              have y2 : wp.cell? ⟨wr.heap.size, 2, none⟩ = some (.slice pa ps.length pc) := cell_of bx
              have y3 : wp.cell? ⟨wr.heap.size, 3, none⟩ = some (.int .i64 wth) := cell_of bx
              have a_wp := a_wb.keep f (by simp; omega)
              have g_wp : Fr [] w wp := g_wb.trans f (by simp) (by simp; omega)
              clear C1 h_wb a_wb g_wb
              clear f hev
              obtain ⟨ga, gc, rfl, _, _, hsl, _⟩ := ob.formB
              have hcv := fun c => conv_st (cap := c) hsl rfl
              try simp only [List.length_nil] at hcv
              clear ob hsl
              have K2 := hold_pre Rd X
              go_wp2_with fail
              go_meet
              exact ⟨[], Rd, X, wd, r, true, rfl, rfl, rfl, rfl, Lib.hid ⟨HI.out.closed, HI.out.open_, HI.out.drop, by have := HI.out.bound; omega⟩, h_wp, g_wp, a_wp⟩

            · clear hr1 hr0
              have E1 : fRead ⟨c, [], wd, r⟩ n = ⟨⟨c, [], wd, r⟩, [], r⟩ := by exact hev
              have C1 := Lib.hid (flow_read h_wb n)
              unfold FTPost at C1
              rw [E1] at C1
              clear E1
              go_wp2_with fail
              refine C1.out.mono ?_
              rintro e wp ⟨u, rfl, f, ob, h_wp⟩
              replace h_wp : Fl wp b R D ⟨c, [], wd, r⟩ := h_wp
              have hsz := g_wb.size
              have bx := f.keep hbx (by simp; omega)
              have y0 : wp.cell? ⟨wr.heap.size, 0, none⟩ = some (.int .i64 1) := cell_of bx
              have y1 : wp.cell? ⟨wr.heap.size, 1, none⟩ = some (.int .i64 n) := cell_of bx
              have y2 : wp.cell? ⟨wr.heap.size, 2, none⟩ = some (.slice pa ps.length pc) := cell_of bx
              have y3 : wp.cell? ⟨wr.heap.size, 3, none⟩ = some (.int .i64 wth) := cell_of bx
              have a_wp := a_wb.keep f (by simp; omega)
              have g_wp : Fr [] w wp := g_wb.trans f (by simp) (by simp; omega)
              clear C1 h_wb a_wb g_wb
              clear f hev
              obtain ⟨ga, gc, rfl, _, _, hsl, _⟩ := ob.formB
              have hcv := fun c => conv_st (cap := c) hsl rfl
              try simp only [List.length_nil] at hcv
              clear ob hsl
              have K2 := hold_pre Rd X
              go_wp2_with fail
              go_meet
              exact ⟨[], Rd, X, wd, r, true, rfl, rfl, rfl, rfl, Lib.hid ⟨HI.out.closed, HI.out.open_, HI.out.drop, by have := HI.out.bound; omega⟩, h_wp, g_wp, a_wp⟩

            · exact absurd hr1 hr0
            · exact absurd hr1 hr0
            · exact absurd hr1 hr0
          · have hr0 : r = 0 := Classical.byContradiction fun h => by have := HI.out.closed.2 h; simp at this
            subst hr0
            obtain rfl := HI.out.open_ rfl

            rcases fRead_cases c X wd 0 n with ⟨hn, hev⟩ | ⟨hn, hev⟩ | ⟨hn, hr1, hev⟩ | ⟨hn, hr1, hs0, hw0, hev⟩ | ⟨hn, hr1, hs0, hw0, hev⟩ | ⟨hn, hr1, hs0, hev⟩
            · have E1 : fRead ⟨c, X, wd, 0⟩ n = ⟨⟨c, X, wd, 0⟩, [], 2⟩ := by exact hev
              have C1 := Lib.hid (flow_read h_wb n)
              unfold FTPost at C1
              rw [E1] at C1
              clear E1
              go_wp2_with fail
              refine C1.out.mono ?_
              rintro e wp ⟨u, rfl, f, ob, h_wp⟩
              replace h_wp : Fl wp b R D ⟨c, X, wd, 0⟩ := h_wp
              have hsz := g_wb.size
              have bx := f.keep hbx (by simp; omega)
              have y0 : wp.cell? ⟨wr.heap.size, 0, none⟩ = some (.int .i64 1) := cell_of bx
              have y1 : wp.cell? ⟨wr.heap.size, 1, none⟩ = some (.int .i64 n) := cell_of bx
              have y2 : wp.cell? ⟨wr.heap.size, 2, none⟩ = some (.slice pa ps.length pc) := cell_of bx
              have y3 : wp.cell? ⟨wr.heap.size, 3, none⟩ = some (.int .i64 wth) := cell_of bx
              have a_wp := a_wb.keep f (by simp; omega)
              have g_wp : Fr [] w wp := g_wb.trans f (by simp) (by simp; omega)
              clear C1 h_wb a_wb g_wb
              clear f hev
              obtain ⟨ga, gc, rfl, _, _, hsl, _⟩ := ob.formB
              have hcv := fun c => conv_st (cap := c) hsl rfl
              try simp only [List.length_nil] at hcv
              clear ob hsl
              have K2 := hold_pre Rd X
              go_wp2_with fail
              go_meet
              exact ⟨X, Rd, X, wd, 0, false, rfl, rfl, rfl, rfl, Lib.hid ⟨HI.out.closed, HI.out.open_, HI.out.drop, by have := HI.out.bound; omega⟩, h_wp, g_wp, a_wp⟩

            · subst hn
              have E1 : fRead ⟨c, X, wd, 0⟩ 0 = ⟨⟨c, X, wd, 0⟩, [], 0⟩ := by exact hev
              have C1 := Lib.hid (flow_read h_wb 0)
              unfold FTPost at C1
              rw [E1] at C1
              clear E1
              go_wp2_with fail
              refine C1.out.mono ?_
              rintro e wp ⟨u, rfl, f, ob, h_wp⟩
              replace h_wp : Fl wp b R D ⟨c, X, wd, 0⟩ := h_wp
              have hsz := g_wb.size
              have bx := f.keep hbx (by simp; omega)
              have y0 : wp.cell? ⟨wr.heap.size, 0, none⟩ = some (.int .i64 1) := cell_of bx
              have y1 : wp.cell? ⟨wr.heap.size, 1, none⟩ = some (.int .i64 0) := cell_of bx
              have y2 : wp.cell? ⟨wr.heap.size, 2, none⟩ = some (.slice pa ps.length pc) := cell_of bx
              have y3 : wp.cell? ⟨wr.heap.size, 3, none⟩ = some (.int .i64 wth) := cell_of bx
              have a_wp := a_wb.keep f (by simp; omega)
              have g_wp : Fr [] w wp := g_wb.trans f (by simp) (by simp; omega)
              clear C1 h_wb a_wb g_wb
              clear f hev
              obtain ⟨ga, gc, rfl, _, _, hsl, _⟩ := ob.formB
              have hcv := fun c => conv_st (cap := c) hsl rfl
              try simp only [List.length_nil] at hcv
              clear ob hsl
              have K2 := hold_pre Rd X
              go_wp2_with fail
              go_meet
              exact ⟨X, Rd, X, wd, 0, false, rfl, rfl, rfl, rfl, Lib.hid ⟨HI.out.closed, HI.out.open_, HI.out.drop, by have := HI.out.bound; omega⟩, h_wp, g_wp, a_wp⟩

            · exact absurd rfl hr1
            · subst hs0
              clear hr1
              obtain ⟨m1, m2⟩ := ne0 hw0
              clear hw0
              have E1 : fRead ⟨c, [], wd, 0⟩ n = ⟨⟨c, [], wd, 0⟩, [], wd⟩ := by exact hev
              have C1 := Lib.hid (flow_read h_wb n)
              unfold FTPost at C1
              rw [E1] at C1
              clear E1
              go_wp2_with fail
              refine C1.out.mono ?_
              rintro e wp ⟨u, rfl, f, ob, h_wp⟩
              replace h_wp : Fl wp b R D ⟨c, [], wd, 0⟩ := h_wp
              have hsz := g_wb.size
              have bx := f.keep hbx (by simp; omega)
              have y0 : wp.cell? ⟨wr.heap.size, 0, none⟩ = some (.int .i64 1) := cell_of bx
              have y1 : wp.cell? ⟨wr.heap.size, 1, none⟩ = some (.int .i64 n) := cell_of bx
              have y2 : wp.cell? ⟨wr.heap.size, 2, none⟩ = some (.slice pa ps.length pc) := cell_of bx
              have y3 : wp.cell? ⟨wr.heap.size, 3, none⟩ = some (.int .i64 wth) := cell_of bx
              have a_wp := a_wb.keep f (by simp; omega)
              have g_wp : Fr [] w wp := g_wb.trans f (by simp) (by simp; omega)
              clear C1 h_wb a_wb g_wb
              clear f hev
              obtain ⟨ga, gc, rfl, _, _, hsl, _⟩ := ob.formB
              have hcv := fun c => conv_st (cap := c) hsl rfl
              try simp only [List.length_nil] at hcv
              clear ob hsl
              have K2 := hold_pre Rd []
              simp only [List.append_nil] at K2
              go_wp2_with fail
              go_meet
              exact ⟨[], Rd, [], wd, 0, false, by simp, rfl, rfl, rfl, Lib.hid ⟨HI.out.closed, HI.out.open_, HI.out.drop, by have := HI.out.bound; omega⟩, h_wp, g_wp, a_wp⟩

            · subst hs0
              subst hw0
              clear hr1
              have E1 : fRead ⟨c, [], 0, 0⟩ n = ⟨⟨c, [], 0, 0⟩, [], 16⟩ := by exact hev
              have C1 := Lib.hid (flow_read h_wb n)
              unfold FTPost at C1
              rw [E1] at C1
              clear E1
              go_wp2_with fail
              refine C1.out.mono ?_
              rintro e wp ⟨u, rfl, f, ob, h_wp⟩
              replace h_wp : Fl wp b R D ⟨c, [], 0, 0⟩ := h_wp
              have hsz := g_wb.size
              have bx := f.keep hbx (by simp; omega)
              have y0 : wp.cell? ⟨wr.heap.size, 0, none⟩ = some (.int .i64 1) := cell_of bx
              have y1 : wp.cell? ⟨wr.heap.size, 1, none⟩ = some (.int .i64 n) := cell_of bx
              have y2 : wp.cell? ⟨wr.heap.size, 2, none⟩ = some (.slice pa ps.length pc) := cell_of bx
              have y3 : wp.cell? ⟨wr.heap.size, 3, none⟩ = some (.int .i64 wth) := cell_of bx
              have a_wp := a_wb.keep f (by simp; omega)
              have g_wp : Fr [] w wp := g_wb.trans f (by simp) (by simp; omega)
              clear C1 h_wb a_wb g_wb
              clear f hev
              obtain ⟨ga, gc, rfl, _, _, hsl, _⟩ := ob.formB
              have hcv := fun c => conv_st (cap := c) hsl rfl
              try simp only [List.length_nil] at hcv
              clear ob hsl
              have K2 := hold_pre Rd []
              simp only [List.append_nil] at K2
              go_wp2_with fail
              go_meet
              exact ⟨[], Rd, [], 0, 0, false, by simp, rfl, rfl, rfl, Lib.hid ⟨HI.out.closed, HI.out.open_, HI.out.drop, by have := HI.out.bound; omega⟩, h_wp, g_wp, a_wp⟩

            · clear hr1
              obtain ⟨O, hO⟩ : ∃ O, X.take n.toNat = O := ⟨_, rfl⟩
              obtain ⟨Z, hZ⟩ : ∃ Z, X.drop n.toNat = Z := ⟨_, rfl⟩
              have hsOR : X = O ++ Z := by rw [← hO, ← hZ, List.take_append_drop]
              have hOn : (O.length : Int) ≤ n := by rw [← hO, List.length_take]; omega
              have hOp : 0 < O.length := by
                rw [← hO, List.length_take]
                have := List.length_pos_iff.2 hs0
                omega
              have hO0 : ((O.length : Int) == 0) = false := by rw [beq_eq_false_iff_ne]; omega
              have hn1 : (n != 0) = true := by rw [bne_iff_ne]; omega
              rw [hO, hZ] at hev
              clear hO hZ hs0
              subst hsOR
              have hbd1 : (Rd.length : Int) + O.length + Z.length ≤ 960000 := by rw [List.length_append] at hbd; omega
              clear hbd
              have E1 : fRead ⟨c, O ++ Z, wd, 0⟩ n = ⟨⟨c, Z, wd, 0⟩, O, 0⟩ := by exact hev
              have C1 := Lib.hid (flow_read h_wb n)
              unfold FTPost at C1
              rw [E1] at C1
              clear E1
              go_wp2_with fail
              refine C1.out.mono ?_
              rintro e wp ⟨u, rfl, f, ob, h_wp⟩
              replace h_wp : Fl wp b R D ⟨c, Z, wd, 0⟩ := h_wp
              have hsz := g_wb.size
              have bx := f.keep hbx (by simp; omega)
              have y0 : wp.cell? ⟨wr.heap.size, 0, none⟩ = some (.int .i64 1) := cell_of bx
              have y1 : wp.cell? ⟨wr.heap.size, 1, none⟩ = some (.int .i64 n) := cell_of bx
              have y2 : wp.cell? ⟨wr.heap.size, 2, none⟩ = some (.slice pa ps.length pc) := cell_of bx
              have y3 : wp.cell? ⟨wr.heap.size, 3, none⟩ = some (.int .i64 wth) := cell_of bx
              have a_wp := a_wb.keep f (by simp; omega)
              have g_wp : Fr [] w wp := g_wb.trans f (by simp) (by simp; omega)
              clear C1 h_wb a_wb g_wb
              clear f hev
              obtain ⟨ga, gc, rfl, _, _, hsl, _⟩ := ob.formB
              have hcv := fun c => conv_st (cap := c) hsl rfl
              try simp only [List.length_nil] at hcv
              clear ob hsl
              have K2 := hold_pre2 Rd O Z
              have HSC := Lib.hid hsc
              clear hsc
              go_wp2_with fail
              go_meet
              exact ⟨Z, (Rd ++ O), Z, wd, 0, false, by first | rfl | rw [List.append_assoc], rfl, rfl, rfl, Lib.hid ⟨HI.out.closed, fun _ => rfl, by simp, by have := HI.out.bound; simp only [List.length_append] at *; omega⟩, h_wp, g_wp, a_wp⟩

        have b0 : (what == 0) = false := by simpa using q0
        have b1 : (what == 1) = false := by simpa using q1
        have b2 : (what == 2) = false := by simpa using q2
        have b3 : (what == 3) = false := by simpa using q3
        clear hss_b
        as_aux_lemma =>
          rcases hdr with rfl | rfl
          · obtain rfl := HI.out.drop rfl
            have hr0 : r ≠ 0 := HI.out.closed.1 rfl
            obtain ⟨n1, n2⟩ := ne0 hr0
            clear hr0
            have K2 := hold_pre Rd X
            go_wp2_with fail
            go_meet
            exact ⟨[], Rd, X, wd, r, true, rfl, rfl, rfl, rfl, Lib.hid ⟨HI.out.closed, HI.out.open_, HI.out.drop, by have := HI.out.bound; omega⟩, h_wb, g_wb, a_wb⟩

          · have hr0 : r = 0 := Classical.byContradiction fun h => by have := HI.out.closed.2 h; simp at this
            subst hr0
            obtain rfl := HI.out.open_ rfl
            have K2 := hold_pre Rd X
            go_wp2_with fail
            go_meet
            exact ⟨X, Rd, X, wd, 0, false, rfl, rfl, rfl, rfl, Lib.hid ⟨HI.out.closed, HI.out.open_, HI.out.drop, by have := HI.out.bound; omega⟩, h_wb, g_wb, a_wb⟩

      case rest =>
        obtain ⟨s2, Rd2, X2, wd2, r2, dr2, rfl, rfl, rfl, rfl, HI2, h_wc, g_wc, a_wc⟩ := hcut
        clear h_wb g_wb a_wb hss_b x0 x1 x2 x3 hwb hbx hbd hsc HI hmx htot htot' hp30 hdr
        have hbd2 : (Rd2.length : Int) + X2.length ≤ 960000 := by have := HI2.out.bound; rw [List.length_append] at this; have : (k + 1) * 12000 ≤ 80 * 12000 := Nat.mul_le_mul_right _ (by omega); omega
        have hbe := h_wc.bd
        dsimp only at hbe
        have hsl2 : (s2.length : Int) ≤ c := by omega
        have K2 := hold_pre Rd2 X2
        have kk1 : decide ((Rd2.length : Int) + X2.length < Rd2.length) = false := by simp; omega
        have kk0 : decide ((c : Int) < 0) = false := by simp
        have kk2 : ((X2.length : Int) != (Rd2.length : Int) + X2.length - Rd2.length) = false := by rw [show (Rd2.length : Int) + X2.length - Rd2.length = X2.length from by omega]; simp
        have hdr : dr2 = true ∨ dr2 = false := by cases dr2 <;> simp
        rcases hdr with rfl | rfl
        · obtain rfl := HI2.out.drop rfl
          have HL := Lib.hid (flow_len0 h_wc)
          have HF := Lib.hid (flow_free0 h_wc)
          clear hbe hsl2
          as_aux_lemma =>
            go_wp2_with (first | (go_at_call 81; refine HL.out.mono ?_; rintro e w' ⟨rfl, rfl⟩) | (go_at_call 86; refine HF.out.mono ?_; rintro e w' ⟨rfl, rfl⟩))
            go_roundw
            case rel => exact ⟨k + 1, [], Rd2, X2, wd2, r2, true, by omega, by go_num, rfl, rfl, rfl, rfl, HI2, h_wc, g_wc, a_wc⟩
            case measure => simp [intOf]; omega
        · obtain rfl := HI2.out.open_ rfl
          have HL := Lib.hid (flow_len h_wc)
          have HF := Lib.hid (flow_free h_wc)
          dsimp only at HL HF
          have kk3 : decide ((c : Int) < X2.length) = false := by simp; omega
          have kk4 : ((X2.length : Int) + ((c : Int) - X2.length) != c) = false := by rw [show (X2.length : Int) + ((c : Int) - X2.length) = c from by omega]; simp
          clear hbe
          as_aux_lemma =>
            go_wp2_with (first | (go_at_call 81; refine HL.out.mono ?_; rintro e w' ⟨rfl, rfl⟩) | (go_at_call 86; refine HF.out.mono ?_; rintro e w' ⟨rfl, rfl⟩))
            go_roundw
            case rel => exact ⟨k + 1, X2, Rd2, X2, wd2, r2, false, by omega, by go_num, rfl, rfl, rfl, rfl, HI2, h_wc, g_wc, a_wc⟩
            case measure => simp [intOf]; omega
    · have hdr : dr = true ∨ dr = false := by cases dr <;> simp
      as_aux_lemma =>
        rcases hdr with rfl | rfl
        · go_wp2_with fail
          refine (known13 _).mono ?_
          rintro e w99 ⟨rfl, f99⟩
          go_wp2_with fail
          go_ret
          exact ⟨rfl, g_wr.then0 f99⟩
        · have hr0 : r = 0 := Classical.byContradiction fun h => by have := HI.out.closed.2 h; simp at this
          subst hr0
          obtain rfl := HI.out.open_ rfl
          have hbe := h_wr.bd
          dsimp only at hbe
          have HL := Lib.hid (flow_len h_wr)
          dsimp only at HL
          by_cases hX0 : X = []
          · subst hX0
            go_wp2_with fail
            refine HL.out.mono ?_
            rintro e w' ⟨rfl, rfl⟩
            go_wp2_with fail
            refine (known13 _).mono ?_
            rintro e w99 ⟨rfl, f99⟩
            go_wp2_with fail
            go_ret
            exact ⟨rfl, g_wr.then0 f99⟩
          · have hpos := List.length_pos_iff.2 hX0
            have k1 : ((X.length : Int) == 0) = false := by rw [beq_eq_false_iff_ne]; omega
            have hrd : fRead ⟨c, X, wd, 0⟩ c = ⟨⟨c, X.drop c, wd, 0⟩, X, 0⟩ := by
              unfold fRead
              rw [if_neg (by omega), if_neg (by omega), if_neg (by simp), if_pos hX0, Int.toNat_natCast]
              dsimp only
              rw [List.take_of_length_le hbe.1]
            have HR := Lib.hid (reads13 h_wr c X 0 (by rw [hrd]) (by rw [hrd]))
            have hrun : ∀ w, (Instr.slice 9 (.string (st (Rd ++ X))) (some (.int .i64 Rd.length)) none none).run Try.prog w = .ok (.string (st X)) w := fun w => by
              have := run_from (Rd ++ X) Rd.length (by simp) w
              rwa [List.drop_left'] at this
              rfl
            clear hrd hX0 hpos h_wr hbe
            go_wp2_with fail
            refine HL.out.mono ?_
            rintro e w' ⟨rfl, rfl⟩
            go_wp2_with fail
            refine HR.out.mono ?_
            rintro e w6 ⟨rfl, f6, h6⟩
            have g6 : Fr [] w w6 := g_wr.trans f6 (by simp) (by simp; omega)
            go_wp2_with fail
            refine (known13 _).mono ?_
            rintro e w99 ⟨rfl, f99⟩
            go_wp2_with fail
            go_ret
            exact ⟨rfl, g6.then0 f99⟩

theorem flowHolds_walk {a : Option Addr} {len cap : Nat} (c : Int) (w : World) (h : ∃ A, Acts12 w w.heap.size a len cap A) :
    Calls Try.prog 20 #[.int .i64 c, .slice a len cap] w fun e w' => e = .returned (.bool true) ∧ Fr [] w w' := by
  obtain ⟨A, hA⟩ := h
  have HSM := small13 hA
  by_cases hs : smallB A = true
  · by_cases hc : 1 ≤ c ∧ c ≤ 4096
    · obtain ⟨n, rfl⟩ := Int.eq_ofNat_of_zero_le (show 0 ≤ c by omega)
      exact flowHolds_main w (by omega) (by omega) hA hs
    · rw [hs] at HSM
      have HS := Lib.hid HSM
      have hc' : c < 1 ∨ 4096 < c := by omega
      clear HSM hs hA hc
      rcases hc' with h1 | h1
      · go_enter Try.func20, Try.ntmps20
        go_wp2_with fail
        refine HS.out.mono ?_
        rintro e w' ⟨rfl, rfl⟩
        go_wp2_with fail
        refine (known13 _).mono ?_
        rintro e w' ⟨rfl, f⟩
        go_wp2_with fail
        go_ret
        exact ⟨rfl, f⟩
      · have h2 : 1 ≤ c := by omega
        go_enter Try.func20, Try.ntmps20
        go_wp2_with fail
        refine HS.out.mono ?_
        rintro e w' ⟨rfl, rfl⟩
        go_wp2_with fail
        refine (known13 _).mono ?_
        rintro e w' ⟨rfl, f⟩
        go_wp2_with fail
        go_ret
        exact ⟨rfl, f⟩
  · have hs' : smallB A = false := by simpa using hs
    rw [hs'] at HSM
    have HS := Lib.hid HSM
    clear HSM hs hs' hA
    go_enter Try.func20, Try.ntmps20
    go_wp2_with fail
    refine HS.out.mono ?_
    rintro e w' ⟨rfl, rfl⟩
    go_wp2_with fail
    refine (known13 _).mono ?_
    rintro e w' ⟨rfl, f⟩
    go_wp2_with fail
    go_ret
    exact ⟨rfl, f⟩
end Go.Proofs.Ytpkgjgfdobcboaa
