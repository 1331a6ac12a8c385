/-
  slices.Grow and slices.Concat of bytes; the bytes of a rope.
-/
import Derived.Test.YtodpkdbcdbdjfaaRopeNew
import Derived.Lib.AppendZeros
namespace Go.Proofs.Ytodpkdbcdbdjfaa
open Go.RowKit
set_option maxRecDepth 100000

theorem grow_bytes {w : World} (n : Nat) (hn : n ≤ 1000000) :
    Calls Try.prog 85 #[.slice none 0 0, .int .i64 n] w fun e w' => ∃ v, e = .returned v ∧ Fr [] w w' ∧ Ow w' w.heap.size 5 v [] := by
  rcases Nat.eq_zero_or_pos n with h0 | h0
  · subst h0
    go_enter Try.func85, Try.ntmps85
    go_wp2_with fail
    go_ret
    exact ⟨_, rfl, Fr.refl _ _, Ow.nil _ _ _⟩
  · obtain ⟨i, hi, hz, hs, hby⟩ : ∃ i, Try.prog.info? 5 = some i ∧ i.zero = some (.int .u8 0) ∧ i.size = 1 ∧ i.bytes = 1 := by
      have hinfo : (Try.prog.info? 5).map (fun i => (i.zero, i.size, i.bytes)) = some (some (.int .u8 0), 1, 1) := by kernel_rfl
      cases h : Try.prog.info? 5 with
      | none => simp [h] at hinfo
      | some i => simp [h] at hinfo; exact ⟨i, rfl, hinfo.1, hinfo.2.1, hinfo.2.2⟩
    have hrun := Lib.run_append_nil_zeros (P := Try.prog) w 22 3 22 5 i (.int .u8 0) .i64 .i64 Try.underlying22 Try.underlying3 hi hz n h0 (by omega) (by omega) (by rw [hby]; omega)
    have hge : n ≤ grownCap w n 0 5 := grownCap_ge _ _ _ _
    have hmx : grownCap w n 0 5 ≤ maxLen := grownCap_le_maxLen _ _ _ _ (by unfold maxLen; omega)
    generalize grownCap w n 0 5 = C at hrun hge hmx
    have hn' : (0 : Int) < n := by omega
    have HR := Lib.hid hrun
    clear hi hz hs hby hrun
    go_enter Try.func85, Try.ntmps85
    go_wp2_with (at_builtin; refine Lib.wpList_append_run _ rfl (.tmp 20) (.tmp 21) 22 3 rfl (.slice none 0 0) (.int .i64 n) rfl rfl _ _ HR.out ?_)

    go_ret
    refine ⟨_, rfl, (Fr.refl _ _).drew.alloc _, by simp, .inr ⟨w.heap.size, C, _, rfl, Nat.le_refl _, newA (w := w.drew) rfl, Nat.zero_le _, hmx, ?_, by simp⟩⟩
    simp [Builtin.zeroCells, Value.cells]
    omega

set_option maxHeartbeats 1000000 in
theorem concat_bytes {w : World} {N : Nat → Prop} {a : Option Addr} {len cap : Nat} {P : Parts} (h : PartsAt w N a P) (hl : len = P.length) (hm : P.length ≤ 1000000) (ht : tot P ≤ 1000000) :
    Calls Try.prog 78 #[.slice a len cap] w fun e w' => ∃ v, e = .returned v ∧ Fr [] w w' ∧ Ow w' w.heap.size 5 v ((bi P.flatten).map (Value.int .u8)) := by
  subst hl
  have hi : (P.length : Int) ≤ 1000000 := by omega
  have HU : Hid (Try.prog.underlying 22 = some (.slice 5)) := Lib.hid Try.underlying22
  have HIN : Hid ((Try.prog.info? 5).map (fun i => (i.zero, i.size, i.bytes)) = some (some (.int .u8 0), 1, 1)) := Lib.hid (by kernel_rfl)
  go_enter Try.func78, Try.ntmps78
  go_wp2_with fail
  go_loop [3, 11] (fun s i => ∃ k : Nat, k ≤ P.length ∧ i = .int .i64 k ∧ s = .int .i64 (tot (P.take k) : Nat)) (fun _ i => P.length - (intOf i).toNat)
  case atStart => exact ⟨0, by omega, rfl, rfl⟩
  case round =>
    obtain ⟨k, hk, rfl, rfl⟩ := hrel
    by_cases hlt : (k : Int) < P.length
    · have hlt' : k < P.length := by omega
      obtain ⟨b, o, ak, ck, rfl, _, hcell, _⟩ := h.at_ hlt'
      have hnext := tot_take_succ hlt'
      have hle := tot_take_le P (k + 1)
      generalize P[k].length = x at *
      have HN := Lib.hid hnext
      generalize tot (P.take k) = S at *
      have hsx : (S : Int) + x ≤ 1000000 := by omega
      have hsx' : ((S : Int) + x < 0) = False := by simp; omega
      clear hnext
      go_wp2_with fail
      go_round
      case rel => exact ⟨k + 1, by omega, by go_num, by rw [HN.out]; go_num⟩
      case measure => simp [intOf]; omega
    · have hke : P.take k = P := List.take_of_length_le (by omega)
      rw [hke]
      have htt : (0 : Int) ≤ (tot P : Nat) := by omega
      clear hke
      go_wp2_with fail
      refine (grow_bytes (tot P) ht).mono ?_
      rintro e w1 ⟨v, rfl, f1, o1⟩
      go_wp2_with fail
      go_loopw [6, 27] (fun v i wr => ∃ k : Nat, k ≤ P.length ∧ i = .int .i64 k ∧ Ow wr w.heap.size 5 v ((bi (P.take k).flatten).map (Value.int .u8)) ∧ Fr [] w wr) (fun _ i _ => P.length - (intOf i).toNat)
      case atStart => exact ⟨0, by omega, rfl, o1, f1⟩
      case round =>
        obtain ⟨k, hk, rfl, ow, g⟩ := hrel
        clear o1 f1
        by_cases hlt : (k : Int) < P.length
        · have hlt' : k < P.length := by omega
          obtain ⟨b, o, ak, ck, rfl, _, hcell, hc1, hc2, hsl, _⟩ := (h.keep g (by simp)).at_ hlt'
          have hnext : (P.take (k + 1)).flatten = (P.take k).flatten ++ P[k] := by
            rw [List.take_succ_eq_append_getElem hlt', List.flatten_append]
            simp
          have hle := tot_take_le P (k + 1)
          rw [tot_take_succ hlt'] at hle
          have hlen : ((bi (P.take k).flatten).map (Value.int .u8)).length = tot (P.take k) := by rw [List.length_map, bi_length]; rfl
          generalize P[k] = p at *
          generalize (P.take k).flatten = F at *
          have HN := Lib.hid hnext
          have H3 : Hid (((bi F).map (Value.int .u8)).length + p.length ≤ maxLen) := Lib.hid (by rw [hlen]; unfold maxLen; omega)
          have H4 : Hid ((((bi F).map (Value.int .u8)).length + p.length) * 1 ≤ 140737488355328) := Lib.hid (by rw [hlen]; omega)
          have H5 : Hid (((bi p).map (Value.int .u8)).length = p.length) := Lib.hid (by simp [bi_length])
          have HO := Lib.hid (bytes_one (bi p))
          have HS := Lib.hid hsl.toV
          have hW := g.size
          have HOW := Lib.hid ow
          have hob := ow.lt
          obtain ⟨ga, gc, rfl, _⟩ := ow.formB
          clear hnext hlen hsl hle ow
          go_wp2_with (refine wpList_append_fr _ rfl (.tmp 31) (.tmp 32) 22 rfl 5 (.int .u8 0) 1 HU.out HIN.out rfl w.heap.size _ _ (by exact rfl) HOW.out ak p.length ck _ (by exact rfl) H5.out HS.out HO.out H3.out H4.out hW ?_)
          intro v' w3 o3 f3 _
          have g3 : Fr [] w w3 := g.own f3 (fun k e => .inr (hob k e).1)
          clear hob
          go_wp2_with fail
          go_roundw
          case rel => exact ⟨k + 1, by omega, by go_num, by rw [HN.out, bi_append, List.map_append]; exact o3.out, g3⟩
          case measure => simp [intOf]; omega
        · have hke : P.take k = P := List.take_of_length_le (by omega)
          rw [hke] at ow
          clear hke
          have HOW := Lib.hid ow
          clear ow
          go_wp2_with fail
          go_ret
          exact ⟨_, rfl, g, HOW.out⟩

theorem rope_bytes {w : World} {N : Nat → Prop} {v : Value} {P : Parts} (h : Rp w N v P) :
    Calls Try.prog 58 #[v] w fun e w' => ∃ u, e = .returned u ∧ Fr [] w w' ∧ Ow w' w.heap.size 5 u ((bi P.flatten).map (Value.int .u8)) := by
  obtain ⟨a, cap, rfl, h1, h2, h3, _, h5, h6⟩ := h
  have HC : Hid (∀ o, Calls Try.prog 78 #[.slice a P.length cap] (w.alloc o) fun e w' => ∃ v, e = .returned v ∧ Fr [] (w.alloc o) w' ∧ Ow w' (w.alloc o).heap.size 5 v ((bi P.flatten).map (Value.int .u8))) :=
    Lib.hid fun o => concat_bytes (h3.keep ((Fr.refl [] w).alloc o) (by simp)) rfl (by omega) (by omega)
  clear h3
  go_enter Try.func58, Try.ntmps58
  go_wp2_with fail
  refine (HC.out _).mono ?_
  rintro e w1 ⟨u, rfl, f1, o1⟩
  go_wp2_with fail
  go_ret
  exact ⟨_, rfl, ((Fr.refl [] w).alloc _).then0 f1, o1.mono (by simp)⟩
theorem rope_len {w : World} {N : Nat → Prop} {v : Value} {P : Parts} (h : Rp w N v P) :
    Calls Try.prog 75 #[v] w fun e w' => e = .returned (.int .i64 (tot P)) ∧ Fr [] w w' := by
  obtain ⟨a, cap, rfl, _⟩ := h
  go_enter Try.func75, Try.ntmps75
  go_wp2_with fail
  go_ret
  exact ⟨rfl, (Fr.refl _ _).alloc _⟩
end Go.Proofs.Ytodpkdbcdbdjfaa
