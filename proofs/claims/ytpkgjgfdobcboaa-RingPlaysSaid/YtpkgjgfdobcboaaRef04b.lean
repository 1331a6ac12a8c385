/-
  Layer 4's reference: Peek, Skip, Read.
-/
import Derived.Test.YtpkgjgfdobcboaaRef04
namespace Go.Proofs.Ytpkgjgfdobcboaa
open Go.RowKit
set_option maxRecDepth 100000

theorem pk_succ {s : List UInt8} {o m i : Nat} (h : i < s.length) : ((s.take (i + 1)).drop o).take m = if o ≤ i ∧ (((s.take i).drop o).take m).length < m then ((s.take i).drop o).take m ++ [s[i]] else ((s.take i).drop o).take m := by
  rw [List.take_succ_eq_append_getElem h]
  by_cases h1 : o ≤ i
  · rw [List.drop_append_of_le_length (by rw [List.length_take]; omega), List.take_append]
    by_cases h2 : (((s.take i).drop o).take m).length < m
    · rw [if_pos ⟨h1, h2⟩]
      rw [List.length_take] at h2
      congr 1
      exact List.take_of_length_le (by rw [List.length_singleton]; omega)
    · rw [if_neg (fun x => h2 x.2)]
      rw [List.length_take] at h2
      rw [show m - ((s.take i).drop o).length = 0 from by omega, List.take_zero, List.append_nil]
  · rw [if_neg (fun x => h1 x.1), List.drop_eq_nil_of_le (by rw [List.length_append, List.length_take, List.length_singleton]; omega), List.drop_eq_nil_of_le (by rw [List.length_take]; omega)]

section
variable {w : World} {M c : Nat} {v : Value} {s : List UInt8}

theorem ref4_peek_bad (h : Ow w M 5 v ((bi s).map (Value.int .u8))) {off most : Int} (hb : off < 0 ∨ most < 0) :
    Calls Try.prog 37 #[.agg #[.int .i64 c, v], .int .i64 off, .int .i64 most] w fun e w' => e = .returned (.tuple #[.slice none 0 0, .int .i64 2]) ∧ Fr [] w w' := by
  obtain ⟨a, cp, rfl, _⟩ := h.formB
  by_cases h1 : off < 0
  · clear hb
    go_enter Try.func37, Try.ntmps37
    go_wp2_with fail
    go_ret2
    exact ⟨rfl, (Fr.refl _ _).alloc _⟩
  · have h2 : most < 0 := by omega
    have h3 : 0 ≤ off := by omega
    clear hb h1
    go_enter Try.func37, Try.ntmps37
    go_wp2_with fail
    go_ret2
    exact ⟨rfl, (Fr.refl _ _).alloc _⟩

set_option maxHeartbeats 2000000 in
theorem ref4_peek (h : Ow w M 5 v ((bi s).map (Value.int .u8))) (hs : s.length ≤ 4096) (o m : Nat) :
    Calls Try.prog 37 #[.agg #[.int .i64 c, v], .int .i64 o, .int .i64 m] w fun e w' => ∃ u, e = .returned (.tuple #[u, .int .i64 0]) ∧ Fr [] w w' ∧ Ow w' w.heap.size 5 u ((bi ((s.drop o).take m)).map (Value.int .u8)) := by
  obtain ⟨a, cp, rfl, hsc, hcm, hsl, _⟩ := h.formB
  have hsi : (s.length : Int) ≤ 4096 := by omega
  have io : (0 : Int) ≤ o := by omega
  have im : (0 : Int) ≤ m := by omega
  have HU : Hid (Try.prog.underlying 29 = some (.slice 5)) := Lib.hid Try.underlying29
  have HIN : Hid ((Try.prog.info? 5).map (fun i => (i.zero, i.size, i.bytes)) = some (some (.int .u8 0), 1, 1)) := Lib.hid (by kernel_rfl)
  have HSL := Lib.hid fun (w' : World) (f : Fr [] w w') => (sl_keep hsl f (by simp))
  clear h
  go_enter Try.func37, Try.ntmps37
  go_wp2_with fail
  have f0 : Fr [] w (w.alloc (.cells #[.int .i64 c, .slice a s.length cp] 43)) := (Fr.refl _ _).alloc _
  have b0 : (w.alloc (.cells #[.int .i64 c, .slice a s.length cp] 43)).heap[w.heap.size]? = some (.cells #[.int .i64 c, .slice a s.length cp] 43 (0, 0)) := newA rfl
  generalize (w.alloc (.cells #[.int .i64 c, .slice a s.length cp] 43)) = W at *
  have hlt0 := lt_of_heap b0
  go_loopw [8, 9] (fun u i wr => ∃ (k : Nat) (G : List UInt8), k ≤ s.length ∧ i = .int .i64 k ∧ Hid (G = ((s.take k).drop o).take m) ∧ G.length ≤ 4096 ∧ Ow wr W.heap.size 5 u ((bi G).map (Value.int .u8)) ∧ Fr [] w wr ∧ Fr [] W wr) (fun _ i _ => s.length - (intOf i).toNat)
  case atStart => exact ⟨0, [], by omega, rfl, Lib.hid (by simp), by simp, Ow.nil _ _ _, f0, Fr.refl _ _⟩
  case round =>
    obtain ⟨k, G, hk, rfl, HG, hGl, ow, g, gW⟩ := hrel
    have q0 := gW.keep b0 (by simp)
    have x0 : wr.cell? ⟨w.heap.size, 1, none⟩ = some (.slice a s.length cp) := cell_of q0
    obtain ⟨ga, gc, rfl, hgc, hgm, _⟩ := ow.formB
    by_cases hlt : (k : Int) < s.length
    · have hlt' : k < s.length := by omega
      have hpk := pk_succ (o := o) (m := m) hlt'
      rw [← HG.out] at hpk
      have HPK := Lib.hid hpk
      clear hpk
      by_cases h1 : (o : Int) ≤ k
      · by_cases h2 : (G.length : Int) < m
        · obtain ⟨pb, po, rfl, hpb, hcell⟩ := HSL.out _ g (by rw [bi_length]; omega)
          have hck := hcell k (by rw [bi_length]; exact hlt')
          rw [bi_getD s k hlt'] at hck
          have hn := HPK.out
          rw [if_pos (by omega)] at hn
          generalize s[k] = y at *
          obtain ⟨G', hG'⟩ : ∃ G', G ++ [y] = G' := ⟨_, rfl⟩
          rw [hG'] at hn
          have HN := Lib.hid hn.symm
          have HGG := Lib.hid hG'
          have hGl' : G'.length ≤ 4096 := by rw [← hn]; rw [List.length_take, List.length_drop, List.length_take]; omega
          have H3 : Hid (((bi G).map (Value.int .u8)).length + 1 ≤ maxLen) := Lib.hid (by rw [List.length_map, bi_length]; unfold maxLen; omega)
          have H4 : Hid ((((bi G).map (Value.int .u8)).length + 1) * 1 ≤ 140737488355328) := Lib.hid (by rw [List.length_map, bi_length]; omega)
          have HOW := Lib.hid fun (w' : World) (f : Fr [] wr w') => ow.keep f (by simp)
          have hob := ow.lt
          have HM : Hid (W.heap.size ≤ (wr.alloc (.cells #[.int .u8 y.toNat] 5)).heap.size) := Lib.hid (by have := gW.size; simp; omega)
          have HOB := Lib.hid hob
          clear hn hG' HPK hcell ow hob
          go_wp2_with (refine wpList_append_fr _ rfl (.tmp 32) (.tmp 38) 29 rfl 5 (.int .u8 0) 1 HU.out HIN.out rfl W.heap.size _ _ (by exact rfl) (HOW.out _ ((Fr.refl _ _).alloc _)) (some ⟨wr.heap.size, 0, none⟩) 1 1 [.int .u8 y.toNat] (by exact rfl) rfl (SlV.box _ _ _) (one_byte _) H3.out H4.out HM.out ?_)
          intro v' w3 o3 f3 _
          have g3 : Fr [] w w3 := (g.alloc _).own f3 (fun k e => .inr (by have := (HOB.out k e).1; omega))
          have g4 : Fr [] W w3 := (gW.alloc _).own f3 (fun k e => .inr (HOB.out k e).1)
          go_wp2_with fail
          go_roundw
          case rel => exact ⟨k + 1, G', by omega, by go_num, HN, hGl', by have := o3.out; rw [own_snocB, HGG.out] at this; exact this, g3, g4⟩
          case measure => simp [intOf]; omega
        · have hn := HPK.out
          rw [if_neg (by omega)] at hn
          have HN := Lib.hid (show G = ((s.take (k + 1)).drop o).take m from hn.symm)
          clear hn HPK
          go_wp2_with fail
          go_roundw
          case rel => exact ⟨k + 1, G, by omega, by go_num, HN, hGl, ow, g, gW⟩
          case measure => simp [intOf]; omega
      · have hn := HPK.out
        rw [if_neg (by omega)] at hn
        have HN := Lib.hid (show G = ((s.take (k + 1)).drop o).take m from hn.symm)
        clear hn HPK
        go_wp2_with fail
        go_roundw
        case rel => exact ⟨k + 1, G, by omega, by go_num, HN, hGl, ow, g, gW⟩
        case measure => simp [intOf]; omega
    · have hke : s.take k = s := List.take_of_length_le (by omega)
      have hG := HG.out
      rw [hke] at hG
      have HGE := Lib.hid hG
      clear hke hG
      go_wp2_with fail
      go_ret2
      exact ⟨_, rfl, g, by rw [← HGE.out]; exact ow.mono (by omega)⟩

theorem ref4_skip_bad (h : Ow w M 5 v ((bi s).map (Value.int .u8))) {most : Int} (hb : most < 0) :
    Calls Try.prog 38 #[.agg #[.int .i64 c, v], .int .i64 most] w fun e w' => e = .returned (.tuple #[.agg #[.int .i64 c, v], .int .i64 0, .int .i64 2]) ∧ Fr [] w w' := by
  obtain ⟨a, cp, rfl, _⟩ := h.formB
  go_enter Try.func38, Try.ntmps38
  go_wp2_with fail
  refine bodyPost_ret (v := .tuple #[.agg #[.int .i64 c, .slice a s.length cp], .int .i64 0, .int .i64 2]) (by simp [results, Try.results38, go_sem]) rfl ?_
  exact ⟨rfl, ((Fr.refl _ _).alloc _).alloc _⟩

def SkPost4 (c : Nat) (s : List UInt8) (n : Nat) (w : World) (e : Ending) (w' : World) : Prop :=
  ∃ u, e = .returned (.tuple #[.agg #[.int .i64 c, u], .int .i64 n, .int .i64 0]) ∧ Fr [] w w' ∧ Ow w' w.heap.size 5 u ((bi (s.drop n)).map (Value.int .u8))
set_option maxHeartbeats 2000000 in
theorem ref4_skip_n (h : Ow w M 5 v ((bi s).map (Value.int .u8))) (hs : s.length ≤ 4096) (m n : Nat) (hn : min m s.length = n) :
    Calls Try.prog 38 #[.agg #[.int .i64 c, v], .int .i64 m] w (SkPost4 c s n w) := by
  obtain ⟨a, cp, rfl, hsc, hcm, hsl, _⟩ := h.formB
  have hsi : (s.length : Int) ≤ 4096 := by omega
  have im : (0 : Int) ≤ m := by omega
  have hns : n ≤ s.length := by omega
  have hni : (n : Int) ≤ s.length := by omega
  have hni0 : (0 : Int) ≤ n := by omega
  have HU : Hid (Try.prog.underlying 29 = some (.slice 5)) := Lib.hid Try.underlying29
  have HIN : Hid ((Try.prog.info? 5).map (fun i => (i.zero, i.size, i.bytes)) = some (some (.int .u8 0), 1, 1)) := Lib.hid (by kernel_rfl)
  obtain ⟨D, hD⟩ : ∃ D, s.drop n = D := ⟨_, rfl⟩
  have hDl : D.length = s.length - n := by rw [← hD, List.length_drop]
  have HONE : Hid (∀ u ∈ (bi D).map (Value.int .u8), u.oneCell' = true) := Lib.hid (bytes_one _)
  have HL : Hid (((bi D).map (Value.int .u8)).length = s.length - n) := Lib.hid (by rw [List.length_map, bi_length, hDl])
  have hcsl : Sl w (cutp a cp n) (bi D) := by
    have := cutp_sl (k := s.length - n) hsl (by rw [bi_length]; exact hsc) (show n + (s.length - n) ≤ (bi s).length by rw [bi_length]; omega)
    rw [← bi_drop, ← bi_take, List.take_of_length_le (by rw [List.length_drop]; exact Nat.le_refl _), hD] at this
    exact this
  have HSL := Lib.hid fun (w' : World) (f : Fr [] w w') => (hcsl.toV.keep f (by simp))
  have hcut := fun w : World => run_cutl (pa := a) (plen := s.length) (pcap := cp) (l := n) hns w
  have H3 : Hid (([] : List Value).length + (s.length - n) ≤ maxLen) := Lib.hid (by unfold maxLen; simp; omega)
  have H4 : Hid ((([] : List Value).length + (s.length - n)) * 1 ≤ 140737488355328) := Lib.hid (by simp; omega)
  have HD := Lib.hid (And.intro hD hDl)
  unfold SkPost4
  rw [HD.out.1]
  clear h hD hDl hcsl hsl
  go_enter Try.func38, Try.ntmps38
  have hcase : ((m : Int) > s.length ∧ n = s.length) ∨ ((m : Int) ≤ s.length ∧ n = m) := by omega
  clear hn
  rcases hcase with ⟨hm, hn⟩ | ⟨hm, hn⟩
  · have e0 : s.length - n = 0 := by omega
    rw [e0] at hcut HL H3 H4
    clear e0
    subst hn
    go_wp2_with fail
    obtain ⟨W, hW, f0, b0, b1⟩ : ∃ W, W = (w.alloc (.cells #[.int .i64 c, .slice a s.length cp] 43)).alloc (.cells #[.int .i64 0, .slice none 0 0] 43) ∧ Fr [] w W ∧ W.heap[w.heap.size]? = some (.cells #[.int .i64 c, .slice a s.length cp] 43 (0, 0)) ∧ W.heap[w.heap.size + 1]? = some (.cells #[.int .i64 0, .slice none 0 0] 43 (0, 0)) := ⟨_, rfl, ((Fr.refl _ _).alloc _).alloc _, keepA (newA rfl), newA (by simp)⟩
    rw [← hW]
    clear hW
    have HS := Lib.hid fun (w' : World) (f : Fr [] W w') => (show w'.cell? ⟨w.heap.size, 0, none⟩ = some (.int .i64 c) ∧ w'.cell? ⟨w.heap.size, 1, none⟩ = some (.slice a s.length cp) from ⟨cell_of (f.keep b0 (by simp)), cell_of (f.keep b0 (by simp))⟩)
    obtain ⟨c0, c1⟩ := HS.out _ (Fr.refl _ _)
    obtain ⟨d0, d1, d2, d3⟩ := cells_two b1
    have hlt := lt_of_heap b1
    go_region_held3 (fun w' => w'.cell? ⟨w.heap.size, 0, none⟩ = some (.int .i64 c) ∧ w'.cell? ⟨w.heap.size, 1, none⟩ = some (.slice a s.length cp))
      (first | (with_reducible exact ⟨t0, t1⟩) | (with_reducible exact ⟨c0, c1⟩) | ((with_reducible refine HS.out _ ?_; repeat first | (with_reducible exact fa) | (with_reducible exact Fr.refl _ _) | (with_reducible refine Fr.drew ?_) | (with_reducible refine Fr.alloc ?_ _)); done) | ((with_reducible refine HT.out _ ?_; repeat first | (with_reducible exact Fr.refl _ _) | (with_reducible refine Fr.drew ?_) | (with_reducible refine Fr.setCell ?_ (.inl (by simp)) _)); done))
      (first
       | (refine step_append_fr (by simp [Region.wanted, yielded]) (.const (.slice none 0 0)) (.tmp 25) 29 rfl 5 (.int .u8 0) 1 HU.out HIN.out rfl W.heap.size (.slice none 0 0) [] (by simp [Act.eval]) (Ow.nil _ _ _) (cutp a cp s.length) 0 (cp - s.length) ((bi D).map (Value.int .u8)) (by simp [Act.eval]) HL.out (HSL.out _ (f0.then0 ((Fr.refl _ _).drew))) HONE.out H3.out H4.out (Nat.le_refl _) ?_; intro v3 w3 own3 fa'; have fa : Fr [] W w3 := Fr.undrew (show Fr [] W.drew w3 from fa'); rw [List.nil_append] at own3; obtain ⟨ga, gc, rfl, _⟩ := own3.formB; obtain ⟨t0, t1⟩ := HS.out _ fa; have b3 := fa.keep b1 (by simp); obtain ⟨n0, n1, n2, n3⟩ := cells_two b3; have HT := Lib.hid fun (w' : World) (f : Fr [w.heap.size + 1] w3 w') => (show w'.cell? ⟨w.heap.size, 0, none⟩ = some (.int .i64 c) ∧ w'.cell? ⟨w.heap.size, 1, none⟩ = some (.slice a s.length cp) from ⟨cell_of (f.keep (fa.keep b0 (by simp)) (by simp)), cell_of (f.keep (fa.keep b0 (by simp)) (by simp))⟩)))
    go_wp2_with fail
    have hts := two_set (u0 := .int .i64 c) (u1 := .slice ga D.length gc) b3
    obtain ⟨z0, z1, _, _⟩ := cells_two hts
    refine bodyPost_ret (v := .tuple #[.agg #[.int .i64 c, .slice ga D.length gc], .int .i64 s.length, .int .i64 0]) (by simp [results, Try.results38, go_sem, z0, z1]) rfl ?_
    have hlt3 := own3.lt
    refine ⟨_, rfl, ?_, ?_⟩
    · repeat first | (with_reducible exact f0.then0 fa) | (with_reducible refine Fr.drew ?_) | (with_reducible refine Fr.drewN ?_ _) | (with_reducible refine Fr.setCell ?_ (.inr (by dsimp only; omega)) _)
    · exact (own3.keep (S := [w.heap.size + 1]) (by repeat first | (with_reducible exact Fr.refl _ _) | (with_reducible refine Fr.drew ?_) | (with_reducible refine Fr.drewN ?_ _) | (with_reducible refine Fr.setCell ?_ (.inl (by simp)) _)) (fun k e hm => by have := (hlt3 k e).1; simp at hm; omega)).mono (by omega)
  · subst hn
    go_wp2_with fail
    obtain ⟨W, hW, f0, b0, b1⟩ : ∃ W, W = (w.alloc (.cells #[.int .i64 c, .slice a s.length cp] 43)).alloc (.cells #[.int .i64 0, .slice none 0 0] 43) ∧ Fr [] w W ∧ W.heap[w.heap.size]? = some (.cells #[.int .i64 c, .slice a s.length cp] 43 (0, 0)) ∧ W.heap[w.heap.size + 1]? = some (.cells #[.int .i64 0, .slice none 0 0] 43 (0, 0)) := ⟨_, rfl, ((Fr.refl _ _).alloc _).alloc _, keepA (newA rfl), newA (by simp)⟩
    rw [← hW]
    clear hW
    have HS := Lib.hid fun (w' : World) (f : Fr [] W w') => (show w'.cell? ⟨w.heap.size, 0, none⟩ = some (.int .i64 c) ∧ w'.cell? ⟨w.heap.size, 1, none⟩ = some (.slice a s.length cp) from ⟨cell_of (f.keep b0 (by simp)), cell_of (f.keep b0 (by simp))⟩)
    obtain ⟨c0, c1⟩ := HS.out _ (Fr.refl _ _)
    obtain ⟨d0, d1, d2, d3⟩ := cells_two b1
    have hlt := lt_of_heap b1
    go_region_held3 (fun w' => w'.cell? ⟨w.heap.size, 0, none⟩ = some (.int .i64 c) ∧ w'.cell? ⟨w.heap.size, 1, none⟩ = some (.slice a s.length cp))
      (first | (with_reducible exact ⟨t0, t1⟩) | (with_reducible exact ⟨c0, c1⟩) | ((with_reducible refine HS.out _ ?_; repeat first | (with_reducible exact fa) | (with_reducible exact Fr.refl _ _) | (with_reducible refine Fr.drew ?_) | (with_reducible refine Fr.alloc ?_ _)); done) | ((with_reducible refine HT.out _ ?_; repeat first | (with_reducible exact Fr.refl _ _) | (with_reducible refine Fr.drew ?_) | (with_reducible refine Fr.setCell ?_ (.inl (by simp)) _)); done))
      (first
       | (refine step_append_fr (by simp [Region.wanted, yielded]) (.const (.slice none 0 0)) (.tmp 25) 29 rfl 5 (.int .u8 0) 1 HU.out HIN.out rfl W.heap.size (.slice none 0 0) [] (by simp [Act.eval]) (Ow.nil _ _ _) (cutp a cp n) (s.length - n) (cp - n) ((bi D).map (Value.int .u8)) (by simp [Act.eval]) HL.out (HSL.out _ (f0.then0 ((Fr.refl _ _).drew))) HONE.out H3.out H4.out (Nat.le_refl _) ?_; intro v3 w3 own3 fa'; have fa : Fr [] W w3 := Fr.undrew (show Fr [] W.drew w3 from fa'); rw [List.nil_append] at own3; obtain ⟨ga, gc, rfl, _⟩ := own3.formB; obtain ⟨t0, t1⟩ := HS.out _ fa; have b3 := fa.keep b1 (by simp); obtain ⟨n0, n1, n2, n3⟩ := cells_two b3; have HT := Lib.hid fun (w' : World) (f : Fr [w.heap.size + 1] w3 w') => (show w'.cell? ⟨w.heap.size, 0, none⟩ = some (.int .i64 c) ∧ w'.cell? ⟨w.heap.size, 1, none⟩ = some (.slice a s.length cp) from ⟨cell_of (f.keep (fa.keep b0 (by simp)) (by simp)), cell_of (f.keep (fa.keep b0 (by simp)) (by simp))⟩)))
    go_wp2_with fail
    have hts := two_set (u0 := .int .i64 c) (u1 := .slice ga D.length gc) b3
    obtain ⟨z0, z1, _, _⟩ := cells_two hts
    refine bodyPost_ret (v := .tuple #[.agg #[.int .i64 c, .slice ga D.length gc], .int .i64 n, .int .i64 0]) (by simp [results, Try.results38, go_sem, z0, z1]) rfl ?_
    have hlt3 := own3.lt
    refine ⟨_, rfl, ?_, ?_⟩
    · repeat first | (with_reducible exact f0.then0 fa) | (with_reducible refine Fr.drew ?_) | (with_reducible refine Fr.drewN ?_ _) | (with_reducible refine Fr.setCell ?_ (.inr (by dsimp only; omega)) _)
    · exact (own3.keep (S := [w.heap.size + 1]) (by repeat first | (with_reducible exact Fr.refl _ _) | (with_reducible refine Fr.drew ?_) | (with_reducible refine Fr.drewN ?_ _) | (with_reducible refine Fr.setCell ?_ (.inl (by simp)) _)) (fun k e hm => by have := (hlt3 k e).1; simp at hm; omega)).mono (by omega)


theorem ref4_read_bad (h : Ow w M 5 v ((bi s).map (Value.int .u8))) {most : Int} (hb : most < 0) :
    Calls Try.prog 35 #[.agg #[.int .i64 c, v], .int .i64 most] w fun e w' => e = .returned (.tuple #[.agg #[.int .i64 c, v], .slice none 0 0, .int .i64 2]) ∧ Fr [] w w' := by
  obtain ⟨a, cp, rfl, _⟩ := id h.formB
  have HP := Lib.hid fun (w' : World) (f : Fr [] w w') => ref4_peek_bad (c := c) (h.keep f (by simp)) (off := 0) (.inr hb)
  go_enter Try.func35, Try.ntmps35
  go_wp2_with fail
  obtain ⟨W, hW, f0, b0, b1⟩ : ∃ W, W = (w.alloc (.cells #[.int .i64 c, .slice a s.length cp] 43)).alloc (.cells #[.int .i64 0, .slice none 0 0] 43) ∧ Fr [] w W ∧ W.heap[w.heap.size]? = some (.cells #[.int .i64 c, .slice a s.length cp] 43 (0, 0)) ∧ W.heap[w.heap.size + 1]? = some (.cells #[.int .i64 0, .slice none 0 0] 43 (0, 0)) := ⟨_, rfl, ((Fr.refl _ _).alloc _).alloc _, keepA (newA rfl), newA (by simp)⟩
  rw [← hW]
  clear hW
  refine (HP.out _ f0).mono ?_
  rintro e w1 ⟨rfl, f1⟩
  obtain ⟨c0, c1, _, _⟩ := cells_two (f1.keep b0 (by simp))
  obtain ⟨d0, d1, d2, d3⟩ := cells_two (f1.keep b1 (by simp))
  go_wp2_with fail
  have hts := two_set (u0 := .int .i64 c) (u1 := .slice a s.length cp) (f1.keep b1 (by simp))
  obtain ⟨z0, z1, _, _⟩ := cells_two hts
  refine bodyPost_ret (v := .tuple #[.agg #[.int .i64 c, .slice a s.length cp], .slice none 0 0, .int .i64 2]) (by simp [results, Try.results35, go_sem, z0, z1]) rfl ?_
  exact ⟨rfl, ((f0.then0 f1).setCell (.inr (by dsimp only; omega)) _).setCell (.inr (by dsimp only; omega)) _⟩

def RdPost4 (c : Nat) (s : List UInt8) (m : Nat) (w : World) (e : Ending) (w' : World) : Prop :=
  ∃ u x, e = .returned (.tuple #[.agg #[.int .i64 c, u], x, .int .i64 0]) ∧ Fr [] w w' ∧ Ow w' w.heap.size 5 u ((bi (s.drop m)).map (Value.int .u8)) ∧ Ow w' w.heap.size 5 x ((bi (s.take m)).map (Value.int .u8)) ∧ (∀ k, u.ownBlock = some k → x.ownBlock ≠ some k)
set_option maxHeartbeats 2000000 in
theorem ref4_read (h : Ow w M 5 v ((bi s).map (Value.int .u8))) (hs : s.length ≤ 4096) (m : Nat) :
    Calls Try.prog 35 #[.agg #[.int .i64 c, v], .int .i64 m] w (RdPost4 c s m w) := by
  obtain ⟨a, cp, rfl, _⟩ := id h.formB
  have HP := Lib.hid fun (w' : World) (f : Fr [] w w') => ref4_peek (c := c) (h.keep f (by simp)) hs 0 m
  have HK := Lib.hid fun (w' : World) (f : Fr [] w w') => ref4_skip_n (c := c) (h.keep f (by simp)) hs m _ rfl
  have hdd : s.drop (min m s.length) = s.drop m := by
    rcases Nat.le_total m s.length with h1 | h1
    · rw [Nat.min_eq_left h1]
    · rw [Nat.min_eq_right h1, List.drop_length, List.drop_eq_nil_of_le h1]
  unfold SkPost4 at HK
  rw [hdd] at HK
  obtain ⟨n, hn⟩ : ∃ n, min m s.length = n := ⟨_, rfl⟩
  rw [hn] at HK
  clear hdd hn
  unfold RdPost4
  rw [List.drop_zero] at HP
  obtain ⟨D, hD⟩ : ∃ D, s.drop m = D := ⟨_, rfl⟩
  obtain ⟨T, hT⟩ : ∃ T, s.take m = T := ⟨_, rfl⟩
  rw [hD] at HK ⊢
  rw [hT] at HP ⊢
  clear hD hT h
  go_enter Try.func35, Try.ntmps35
  go_wp2_with fail
  obtain ⟨W, hW, f0, b0, b1⟩ : ∃ W, W = (w.alloc (.cells #[.int .i64 c, .slice a s.length cp] 43)).alloc (.cells #[.int .i64 0, .slice none 0 0] 43) ∧ Fr [] w W ∧ W.heap[w.heap.size]? = some (.cells #[.int .i64 c, .slice a s.length cp] 43 (0, 0)) ∧ W.heap[w.heap.size + 1]? = some (.cells #[.int .i64 0, .slice none 0 0] 43 (0, 0)) := ⟨_, rfl, ((Fr.refl _ _).alloc _).alloc _, keepA (newA rfl), newA (by simp)⟩
  rw [← hW]
  clear hW
  have hltW := lt_of_heap b1
  refine (HP.out _ f0).mono ?_
  rintro e w1 ⟨x, rfl, f1, o1⟩
  have k0 := f1.keep b0 (by simp)
  have k1 := f1.keep b1 (by simp)
  have g1 := f0.then0 f1
  have hz1 := f1.size
  clear f0 f1 b0 b1 HP
  obtain ⟨c0, c1, _, _⟩ := cells_two k0
  obtain ⟨xa, xc, rfl, _⟩ := id o1.formB
  go_wp2_with fail
  refine (HK.out _ g1).mono ?_
  rintro e w2 ⟨u, rfl, f2, o2⟩
  have j0 := f2.keep k0 (by simp)
  have j1 := f2.keep k1 (by simp)
  have g2 := g1.then0 f2
  have hz2 := f2.size
  have o1' := o1.keep f2 (by simp)
  have hl1 := o1.lt
  have hl2 := o2.lt
  clear k0 k1 g1 f2 HK c0 c1 o1
  obtain ⟨ua, uc, rfl, _⟩ := id o2.formB
  obtain ⟨d0, d1, d2, d3⟩ := cells_two j1
  have fn : Fr [] w2 (w2.alloc (.cells #[.int .i64 c, .slice ua D.length uc] 43)) := (Fr.refl _ _).alloc _
  have i1 := fn.keep j1 (by simp)
  have i2 : (w2.alloc (.cells #[.int .i64 c, .slice ua D.length uc] 43)).heap[w2.heap.size]? = some (.cells #[.int .i64 c, .slice ua D.length uc] 43 (0, 0)) := newA rfl
  obtain ⟨e0, e1, e2, e3⟩ := cells_two i1
  obtain ⟨y0, y1, y2, y3⟩ := cells_two i2
  go_wp2_with fail
  have hts := two_set (u0 := .int .i64 c) (u1 := .slice ua D.length uc) i1
  obtain ⟨z0, z1, _, _⟩ := cells_two hts
  refine bodyPost_ret (v := .tuple #[.agg #[.int .i64 c, .slice ua D.length uc], .slice xa T.length xc, .int .i64 0]) (by simp [results, Try.results35, go_sem, z0, z1]) rfl ?_
  have fE : Fr [w.heap.size + 1] w2 (((w2.alloc (.cells #[.int .i64 c, .slice ua D.length uc] 43)).setCell ⟨w.heap.size + 1, 0, none⟩ (.int .i64 c)).setCell ⟨w.heap.size + 1, 1, none⟩ (.slice ua D.length uc)) := (((Fr.refl _ _).alloc _).setCell (.inl (by simp)) _).setCell (.inl (by simp)) _
  refine ⟨_, _, rfl, ((g2.alloc _).setCell (.inr (by dsimp only; omega)) _).setCell (.inr (by dsimp only; omega)) _, ?_, ?_, ?_⟩
  · exact (o2.keep fE (fun k e hm => by have := (hl2 k e).1; simp at hm; omega)).mono (by omega)
  · exact (o1'.keep fE (fun k e hm => by have := (hl1 k e).1; simp at hm; omega)).mono (by omega)
  · intro k e1 e2
    have := (hl2 k e1).1
    have := (hl1 k e2).2
    omega
end
end Go.Proofs.Ytpkgjgfdobcboaa
