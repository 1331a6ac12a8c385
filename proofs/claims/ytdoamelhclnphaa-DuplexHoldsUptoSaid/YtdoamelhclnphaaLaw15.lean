/-
  Law 15: few; the reference's Join.
-/
import Derived.Test.YtdoamelhclnphaaActs15
namespace Go.Proofs.Ytdoamelhclnphaa
open Go.RowKit
set_option maxRecDepth 100000

def sumC (A : List A15) : Nat := (A.map fun x => tot x.ps).sum
def fewB15 (A : List A15) : Bool := (A.isEmpty || (decide (A.length ≤ 20) && A.all fun x => decide (x.ps.length ≤ 100))) && decide (sumC A ≤ 3000)
theorem sumC_succ {A : List A15} {k : Nat} (h : k < A.length) : sumC (A.take (k + 1)) = sumC (A.take k) + tot A[k].ps := by
  unfold sumC
  rw [List.take_succ_eq_append_getElem h, List.map_append, List.sum_append]
  simp
theorem sumC_le {A : List A15} {k : Nat} (hl : A.length ≤ 20) (h : ∀ i (hi : i < A.length), i < k → tot A[i].ps ≤ 14073748835123200) (hk : k ≤ A.length) : sumC (A.take k) ≤ k * 14073748835123200 := by
  induction k with
  | zero => simp [sumC]
  | succ k ih =>
    rw [sumC_succ (by omega)]
    have := ih (fun i hi hik => h i hi (by omega)) (by omega)
    have := h k (by omega) (by omega)
    omega
theorem join15 {w : World} {N : Nat → Prop} {a : Option Addr} {len cap : Nat} {P : Parts} (h : PartsAt w N a P) (hl : len = P.length) (hn : P.length ≤ 1000) (ht : tot P ≤ 2000000) :
    Calls Try.prog 30 #[.slice a len cap] w fun e w' => ∃ v, e = .returned v ∧ Fr [] w w' ∧ Ow w' w.heap.size 5 v ((bi P.flatten).map (Value.int .u8)) := by
  subst hl
  have hi : (P.length : Int) ≤ 1000 := by omega
  have HU : Hid (Try.prog.underlying 29 = some (.slice 5)) := Lib.hid Try.underlying29
  have HIN : Hid ((Try.prog.info? 5).map (fun i => (i.zero, i.size, i.bytes)) = some (some (.int .u8 0), 1, 1)) := Lib.hid (by kernel_rfl)
  go_enter Try.func30, Try.ntmps30
  go_wp2_with fail
  go_loopw [3, 4] (fun v i wr => ∃ k : Nat, k ≤ P.length ∧ i = .int .i64 k ∧ Ow wr w.heap.size 5 v ((bi (P.take k).flatten).map (Value.int .u8)) ∧ Fr [] w wr) (fun _ i _ => P.length - (intOf i).toNat)
  case atStart => exact ⟨0, by omega, rfl, Ow.nil _ _ _, Fr.refl _ _⟩
  case round =>
    obtain ⟨k, hk, rfl, ow, g⟩ := hrel
    by_cases hlt : (k : Int) < P.length
    · have hlt' : k < P.length := by omega
      obtain ⟨b, o, ak, ck, rfl, _, hcell, hc1, hc2, hsl, _⟩ := (h.keep g (by simp)).at_ hlt'
      have hnext : (P.take (k + 1)).flatten = (P.take k).flatten ++ P[k] := by
        rw [List.take_succ_eq_append_getElem hlt', List.flatten_append]
        simp
      have hle := tot_take_le P (k + 1)
      rw [tot_take_succ hlt'] at hle
      have hlen : ((bi (P.take k).flatten).map (Value.int .u8)).length = tot (P.take k) := by rw [List.length_map, bi_length]; rfl
      generalize P[k] = p at *
      generalize (P.take k).flatten = F at *
      have HN := Lib.hid hnext
      have H3 : Hid (((bi F).map (Value.int .u8)).length + p.length ≤ maxLen) := Lib.hid (by rw [hlen]; unfold maxLen; omega)
      have H4 : Hid ((((bi F).map (Value.int .u8)).length + p.length) * 1 ≤ 140737488355328) := Lib.hid (by rw [hlen]; omega)
      have H5 : Hid (((bi p).map (Value.int .u8)).length = p.length) := Lib.hid (by simp [bi_length])
      have HO := Lib.hid (bytes_one (bi p))
      have HS := Lib.hid hsl.toV
      have hW := g.size
      have HOW := Lib.hid ow
      have hob := ow.lt
      obtain ⟨ga, gc, rfl, _⟩ := ow.formB
      clear hnext hlen hsl hle ow
      go_wp2_with (refine wpList_append_fr _ rfl (.tmp 11) (.tmp 15) 29 rfl 5 (.int .u8 0) 1 HU.out HIN.out rfl w.heap.size _ _ (by exact rfl) HOW.out ak p.length ck _ (by exact rfl) H5.out HS.out HO.out H3.out H4.out hW ?_)
      intro v' w3 o3 f3 _
      have g3 : Fr [] w w3 := g.own f3 (fun k e => .inr (hob k e).1)
      clear hob
      go_wp2_with fail
      go_roundw
      case rel => exact ⟨k + 1, by omega, by go_num, by rw [HN.out, bi_append, List.map_append]; exact o3.out, g3⟩
      case measure => simp [intOf]; omega
    · have hke : P.take k = P := List.take_of_length_le (by omega)
      rw [hke] at ow
      clear hke
      have HOW := Lib.hid ow
      clear ow
      go_wp2_with fail
      go_ret
      exact ⟨_, rfl, g, HOW.out⟩
theorem few15 {w : World} {a : Option Addr} {len cap : Nat} {A : List A15} (h : Acts15 w w.heap.size a len cap A) :
    Calls Try.prog 48 #[.slice a len cap] w fun e w' => e = .returned (.bool (fewB15 A)) ∧ Fr [] w w' := by
  have hle := h.len_eq
  have hcl := h.cap_le
  subst hle
  unfold maxLen at hcl
  have hi : (A.length : Int) ≤ 9223372036854775807 := by omega
  go_enter Try.func48, Try.ntmps48
  have HA := Lib.hid h
  clear h
  go_wp2_with fail
  go_loopw [3, 4] (fun s i wr => ∃ k : Nat, k ≤ A.length ∧ i = .int .i64 k ∧ s = .int .i64 (sumC (A.take k) : Nat) ∧ Hid (0 < k → A.length ≤ 20) ∧ Hid (∀ i (hi : i < A.length), i < k → A[i].ps.length ≤ 100 ∧ tot A[i].ps ≤ 14073748835123200) ∧ Hid (Fr [] w wr)) (fun _ i _ => A.length - (intOf i).toNat)
  case atStart => exact ⟨0, by omega, rfl, by simp [sumC], Lib.hid (by omega), Lib.hid (fun i _ h => by omega), Lib.hid (Fr.refl _ _)⟩
  case round =>
    obtain ⟨k, hk, rfl, rfl, H1, H2, HG⟩ := hrel
    rename World => wr
    have h := HA.out.keep HG.out (Nat.le_refl _) (by simp)
    by_cases hlt : (k : Int) < A.length
    · have hlt' : k < A.length := by omega
      obtain ⟨b, o, pa, pl, pc, rfl, _, _, _, _, hc1, _, hp⟩ := h.at_ k hlt'
      clear h HA
      have hpl := hp.len_eq
      by_cases h20 : (20 : Int) < A.length
      · have hf : fewB15 A = false := by
          unfold fewB15
          have h1 : A.isEmpty = false := by cases A with | nil => simp at hlt' | cons => rfl
          rw [h1, show decide (A.length ≤ 20) = false from by simp; omega]
          rfl
        have HF := Lib.hid hf
        clear hf hp
        go_wp2_with fail
        go_ret
        exact ⟨by rw [HF.out]; rfl, HG.out⟩
      · by_cases h100 : (100 : Int) < pl
        · have hf : fewB15 A = false := by
            unfold fewB15
            have h1 : A.isEmpty = false := by cases A with | nil => simp at hlt' | cons => rfl
            have h2 : (A.all fun x => decide (x.ps.length ≤ 100)) = false := by
              rw [List.all_eq_false]
              exact ⟨A[k], List.getElem_mem hlt', by simp; omega⟩
            rw [h1, h2]
            simp
          have HF := Lib.hid hf
          clear hf hp
          go_wp2_with fail
          go_ret
          exact ⟨by rw [HF.out]; rfl, HG.out⟩
        · have hn20 : (A.length : Int) ≤ 20 := by omega
          have hn100 : (pl : Int) ≤ 100 := by omega
          have htt := hp.tot
          have hcall := join15 (cap := pc) hp.at_ hpl (by omega) (by omega)
          have hbig : tot A[k].ps ≤ 14073748835123200 := by omega
          have hnext := sumC_succ hlt'
          have hsum := sumC_le (A := A) (k := k) (by omega) (fun i hi hik => (H2.out i hi hik).2) (by omega)
          have H3 : Hid (∀ i (hi : i < A.length), i < k + 1 → A[i].ps.length ≤ 100 ∧ tot A[i].ps ≤ 14073748835123200) := Lib.hid fun i hi hik => by
            by_cases h1 : i < k
            · exact H2.out i hi h1
            · obtain rfl : i = k := by omega
              exact ⟨by omega, hbig⟩
          have hfl := tot_eq A[k].ps
          generalize A[k].ps = ps at *
          obtain ⟨x, hx⟩ : ∃ x, tot ps = x := ⟨_, rfl⟩
          rw [hx] at hnext hbig htt
          have hfx : ps.flatten.length = x := by omega
          clear hfl hx
          generalize hS : sumC (A.take k) = S at *
          clear hS
          have HC := Lib.hid hcall
          have HN := Lib.hid hnext
          have hb : (S : Int) + x ≤ 9223372036854775807 := by omega
          clear hnext hcall htt hbig hp H2 h20 h100 hpl hsum
          go_wp2_with fail
          refine HC.out.mono ?_
          rintro e w2 ⟨vj, rfl, f2, oj⟩
          obtain ⟨ja, jc, rfl, _⟩ := oj.formB
          have HG2 := Lib.hid (HG.out.then0 f2)
          clear oj f2 HG HC
          go_wp2_with fail
          go_roundw
          case rel => exact ⟨k + 1, by omega, by go_num, by rw [HN.out]; go_num, Lib.hid (by omega), H3, HG2⟩
          case measure => simp [intOf]; omega
    · clear h
      have hkl : k = A.length := by omega
      subst hkl
      rw [List.take_length]
      have hf : fewB15 A = decide ((sumC A : Int) ≤ 3000) := by
        unfold fewB15
        have h1 : (A.isEmpty || (decide (A.length ≤ 20) && A.all fun x => decide (x.ps.length ≤ 100))) = true := by
          by_cases h0 : A = []
          · rw [h0]; rfl
          · have hl := H1.out (List.length_pos_iff.2 h0)
            have h2 : (A.all fun x => decide (x.ps.length ≤ 100)) = true := by
              rw [List.all_eq_true]
              intro x hx
              obtain ⟨i, hi', rfl⟩ := List.getElem_of_mem hx
              simpa using (H2.out i hi' hi').1
            rw [h2]
            simp [hl]
        rw [h1]
        simp
        omega
      have HF := Lib.hid hf
      clear hf
      go_wp2_with fail
      go_ret
      exact ⟨by rw [HF.out]; rfl, HG.out⟩
theorem le_sumC : ∀ {l : List Nat} {x : Nat}, x ∈ l → x ≤ l.sum
  | a :: l, x, h => by
    rcases List.mem_cons.1 h with rfl | h
    · simp
    · have := le_sumC h
      simp; omega
theorem fewB15_iff {A : List A15} (h : fewB15 A = true) : A.length ≤ 20 ∧ (∀ x ∈ A, x.ps.length ≤ 100 ∧ tot x.ps ≤ 3000) ∧ sumC A ≤ 3000 := by
  unfold fewB15 at h
  rw [Bool.and_eq_true, decide_eq_true_iff] at h
  obtain ⟨h1, h2⟩ := h
  have hs : ∀ x ∈ A, tot x.ps ≤ sumC A := fun x hx => by
    unfold sumC
    obtain ⟨i, hi, rfl⟩ := List.getElem_of_mem hx
    exact le_sumC (List.mem_map.2 ⟨A[i], List.getElem_mem hi, rfl⟩)
  by_cases h0 : A = []
  · subst h0
    exact ⟨by simp, by simp, h2⟩
  · have he : A.isEmpty = false := by simpa using h0
    rw [he, Bool.false_or, Bool.and_eq_true, decide_eq_true_iff, List.all_eq_true] at h1
    exact ⟨h1.1, fun x hx => ⟨by simpa using h1.2 x hx, Nat.le_trans (hs x hx) h2⟩, h2⟩

end Go.Proofs.Ytdoamelhclnphaa
