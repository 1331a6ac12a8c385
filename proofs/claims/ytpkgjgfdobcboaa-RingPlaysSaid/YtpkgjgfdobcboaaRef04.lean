/-
  Layer 4's reference: a ring buffer as a list of bytes.
-/
import Derived.Test.YtpkgjgfdobcboaaRingCopy
import Derived.Test.YtpkgjgfdobcboaaRingKnown
import Derived.Test.YtpkgjgfdobcboaaStepsTwo
import Derived.Deep.RegionLaw
import Derived.Deep.DeepCutAuto
namespace Go.Proofs.Ytpkgjgfdobcboaa
open Go.RowKit
set_option maxRecDepth 100000

/-- Bytes of one's own, as a slice. -/
theorem own_snocB {s : List UInt8} {x : UInt8} : (bi s).map (Value.int .u8) ++ [.int .u8 (x.toNat : Int)] = (bi (s ++ [x])).map (Value.int .u8) := by
  rw [bi_append, List.map_append]; rfl
theorem one_byte (x : Int) : ∀ u ∈ [Value.int .u8 x], u.oneCell' = true := by
  intro u hu
  rw [List.mem_singleton.1 hu]
  rfl
theorem cells_two {w : World} {B : Nat} {c0 c1 : Value} {t : TypeId} (h : w.heap[B]? = some (.cells #[c0, c1] t (0, 0))) :
    w.cell? ⟨B, 0, none⟩ = some c0 ∧ w.cell? ⟨B, 1, none⟩ = some c1 ∧ w.frozen? ⟨B, 0, none⟩ = false ∧ w.frozen? ⟨B, 1, none⟩ = false := ⟨cell_of h, cell_of h, free_of h, free_of h⟩

theorem ref4_new (c : Nat) (w : World) (h1 : 1 ≤ c) (h2 : c ≤ 4096) :
    Calls Try.prog 33 #[.int .i64 c] w fun e w' => e = .returned (.tuple #[.agg #[.int .i64 c, .slice none 0 0], .int .i64 0]) ∧ Fr [] w w' := by
  have i1 : (1 : Int) ≤ c := by omega
  have i2 : (c : Int) ≤ 4096 := by omega
  go_enter Try.func33, Try.ntmps33
  go_wp2_with fail
  exact bodyPost_ret (v := .tuple #[.agg #[.int .i64 c, .slice none 0 0], .int .i64 0]) (by simp [results, Try.results33, go_sem]) rfl ⟨rfl, (Fr.refl _ _).alloc _⟩
theorem ref4_new_bad (c : Int) (w : World) (h : c < 1 ∨ 4096 < c) :
    Calls Try.prog 33 #[.int .i64 c] w fun e w' => e = .returned (.tuple #[.agg #[.int .i64 0, .slice none 0 0], .int .i64 2]) ∧ Fr [] w w' := by
  by_cases h1 : c < 1
  · clear h
    go_enter Try.func33, Try.ntmps33
    go_wp2_with fail
    exact bodyPost_ret (v := .tuple #[.agg #[.int .i64 0, .slice none 0 0], .int .i64 2]) (by simp [results, Try.results33, go_sem]) rfl ⟨rfl, (Fr.refl _ _).alloc _⟩
  · have h2 : 4096 < c := by omega
    have h3 : 1 ≤ c := by omega
    clear h h1
    go_enter Try.func33, Try.ntmps33
    go_wp2_with fail
    exact bodyPost_ret (v := .tuple #[.agg #[.int .i64 0, .slice none 0 0], .int .i64 2]) (by simp [results, Try.results33, go_sem]) rfl ⟨rfl, (Fr.refl _ _).alloc _⟩

section
variable {w : World} {M c : Nat} {v : Value} {s : List UInt8}

set_option maxHeartbeats 2000000 in
theorem ref4_write (h : Ow w M 5 v ((bi s).map (Value.int .u8))) (hs : s.length ≤ c) (hc : c ≤ 4096) {pa : Option Addr} {len cap : Nat} {p : List UInt8} (hp : Sl w pa (bi p)) (hl : len = p.length) (hlc : len ≤ cap) (hpl : p.length ≤ 65536) :
    Calls Try.prog 34 #[.agg #[.int .i64 c, v], .slice pa len cap] w fun e w' => ∃ v', e = .returned (.tuple #[.agg #[.int .i64 c, v'], .int .i64 (min p.length (c - s.length) : Nat), .int .i64 0]) ∧ Fr [] w w' ∧ Ow w' w.heap.size 5 v' ((bi (s ++ p.take (min p.length (c - s.length)))).map (Value.int .u8)) := by
  subst hl
  obtain ⟨a, cp, rfl, hsc, hcm, hsl, _⟩ := h.formB
  have hpi : (p.length : Int) ≤ 65536 := by omega
  have hsi : (s.length : Int) ≤ c := by omega
  have hci : (c : Int) ≤ 4096 := by omega
  have HU : Hid (Try.prog.underlying 29 = some (.slice 5)) := Lib.hid Try.underlying29
  have HIN : Hid ((Try.prog.info? 5).map (fun i => (i.zero, i.size, i.bytes)) = some (some (.int .u8 0), 1, 1)) := Lib.hid (by kernel_rfl)
  have HONE : Hid (∀ u ∈ (bi s).map (Value.int .u8), u.oneCell' = true) := Lib.hid (bytes_one _)
  have HL : Hid (((bi s).map (Value.int .u8)).length = s.length) := Lib.hid (by rw [List.length_map, bi_length])
  have H3 : Hid (([] : List Value).length + s.length ≤ maxLen) := Lib.hid (by unfold maxLen; simp; omega)
  have H4 : Hid ((([] : List Value).length + s.length) * 1 ≤ 140737488355328) := Lib.hid (by simp; omega)
  go_enter Try.func34, Try.ntmps34
  go_wp2_with fail
  obtain ⟨W, hW, f0, b0, b1⟩ : ∃ W, W = (w.alloc (.cells #[.int .i64 c, .slice a s.length cp] 43)).alloc (.cells #[.int .i64 0, .slice none 0 0] 43) ∧ Fr [] w W ∧ W.heap[w.heap.size]? = some (.cells #[.int .i64 c, .slice a s.length cp] 43 (0, 0)) ∧ W.heap[w.heap.size + 1]? = some (.cells #[.int .i64 0, .slice none 0 0] 43 (0, 0)) := ⟨_, rfl, ((Fr.refl _ _).alloc _).alloc _, keepA (newA rfl), newA (by simp)⟩
  rw [← hW]
  clear hW
  have hlt := lt_of_heap b1
  have HSL := Lib.hid fun (w' : World) (f : Fr [] W w') => (hsl.toV.keep (f0.then0 f) (by simp))
  have HS := Lib.hid fun (w' : World) (f : Fr [] W w') => (show w'.cell? ⟨w.heap.size, 0, none⟩ = some (.int .i64 c) ∧ w'.cell? ⟨w.heap.size, 1, none⟩ = some (.slice a s.length cp) from ⟨cell_of (f.keep b0 (by simp)), cell_of (f.keep b0 (by simp))⟩)
  obtain ⟨c0, c1⟩ := HS.out _ (Fr.refl _ _)
  generalize hB : w.heap.size = B at *
  have hBl : w.heap.size ≤ B := by omega
  have hBr : B ≤ w.heap.size := by omega
  clear hB
  go_upto_region 3 with fail
  go_cut [7] (fun s7 wx => ∃ (Q : Nat) (v' : Value), s7 = .pointer (some ⟨Q, 0, none⟩) ∧ wx.heap[Q]? = some (.cells #[.int .i64 c, v'] 43 (0, 0)) ∧ Ow wx W.heap.size 5 v' ((bi s).map (Value.int .u8)) ∧ Fr [] W wx ∧ W.heap.size ≤ Q ∧ v'.ownBlock ≠ some Q)
  case first =>
    go_region_held3 (fun w' => w'.cell? ⟨B, 0, none⟩ = some (.int .i64 c) ∧ w'.cell? ⟨B, 1, none⟩ = some (.slice a s.length cp))
      (first | (with_reducible exact ⟨t0, t1⟩) | (with_reducible exact ⟨c0, c1⟩) | (with_reducible refine HS.out _ ?_; repeat first | (with_reducible exact fa) | (with_reducible exact Fr.refl _ _) | (with_reducible refine Fr.drew ?_) | (with_reducible refine Fr.alloc ?_ _) | (with_reducible refine Fr.setCell ?_ (.inr (by dsimp only; omega)) _)))
      (first
       | (refine step_append_fr2 (by simp [Region.wanted, yielded]) (.const (.slice none 0 0)) (.tmp 16) 29 rfl 5 (.int .u8 0) 1 HU.out HIN.out rfl W.heap.size (.slice none 0 0) [] (by simp [Act.eval]) (Ow.nil _ _ _) a s.length cp ((bi s).map (Value.int .u8)) (by simp [Act.eval]) HL.out (HSL.out _ ((Fr.refl _ _).drew)) HONE.out H3.out H4.out (Nat.le_refl _) ?_; intro v3 w3 own3 fa' hb3; have fa : Fr [] W w3 := Fr.undrew (show Fr [] W.drew w3 from fa'); rw [List.nil_append] at own3; obtain ⟨ga, gc, rfl, _⟩ := own3.formB; have hlt3 := own3.lt; obtain ⟨t0, t1⟩ := HS.out _ fa)
       | (refine step_append_fr2 (by simp [Region.wanted, yielded]) (.const (.slice none 0 0)) (.tmp 16) 29 rfl 5 (.int .u8 0) 1 HU.out HIN.out rfl W.heap.size (.slice none 0 0) [] (by simp [Act.eval]) (Ow.nil _ _ _) a s.length cp ((bi s).map (Value.int .u8)) (by simp [Act.eval]) HL.out (HSL.out _ (((Fr.refl _ _).alloc _).drew)) HONE.out H3.out H4.out (by simp) ?_; intro v3 w3 own3 fa' hb3; have fa : Fr [] W w3 := (((Fr.refl [] W).alloc _).drew).then0 fa'; rw [List.nil_append] at own3; obtain ⟨ga, gc, rfl, _⟩ := own3.formB; have hlt3 := own3.lt; obtain ⟨t0, t1⟩ := HS.out _ fa; have nA : w3.heap[W.heap.size]? = some (.cells #[.int .i64 0, .slice none 0 0] 43 (0, 0)) := fa'.keep (b := W.heap.size) (by exact newA rfl) (by show _ ∉ ([] : List Nat); simp); obtain ⟨nA0, nA1, nA2, nA3⟩ := cells_two nA))
    all_goals go_wp2_with fail
    all_goals go_meet
    · exact ⟨_, _, rfl, by exact newA rfl, by exact (own3.keep ((Fr.refl [] w3).alloc _) (by simp)), by repeat first | (with_reducible exact fa) | (with_reducible refine Fr.drew ?_) | (with_reducible refine Fr.alloc ?_ _), fa.size, fun e => by have := (hlt3 _ e).2; omega⟩
    · have hne : (Value.slice ga s.length gc).ownBlock ≠ some W.heap.size := fun e => by
        rcases hb3 with h | h
        · rw [e] at h; cases h
        · rw [e] at h; simp at h
      exact ⟨_, _, rfl, by exact two_set (c0 := .int .i64 0) (c1 := .slice none 0 0) nA, by exact own3.keep (S := [W.heap.size]) (((Fr.refl [W.heap.size] w3).setCell (p := ⟨W.heap.size, 0, none⟩) (.inl (by simp)) _).setCell (p := ⟨W.heap.size, 1, none⟩) (.inl (by simp)) _) (fun k e hm => by simp at hm; subst hm; exact hne e), by repeat first | (with_reducible exact fa) | (with_reducible refine Fr.drew ?_) | (with_reducible refine Fr.alloc ?_ _) | (with_reducible refine Fr.setCell ?_ (.inr (by dsimp only; omega)) _), Nat.le_refl _, hne⟩
  case rest =>
    obtain ⟨Q, v0, rfl, q0, o0, f1, hQ, hvQ⟩ := hcut
    have q1 := f1.keep b1 (by simp)
    have hQl := lt_of_heap q0
    have hvl := o0.lt
    have s1 := f1.size
    have HP := Lib.hid fun (w' : World) (f : Fr [] w w') => (sl_keep hp f (by simp))
    have g0 : Fr [] w wc := f0.then0 f1
    clear b0 b1 c0 c1 f0 HSL HS hsl h HONE HL H3 H4
    go_wp2_with fail
    go_loopw [8] (fun i wr => ∃ (k : Nat) (u : Value) (G : List UInt8), k ≤ p.length ∧ i = .int .i64 k ∧ Hid (G = s ++ p.take k) ∧ (s.length + k ≤ G.length ∧ G.length ≤ s.length + k ∧ s.length + k ≤ c) ∧ wr.heap[Q]? = some (.cells #[.int .i64 c, u] 43 (0, 0)) ∧ Ow wr W.heap.size 5 u ((bi G).map (Value.int .u8)) ∧ u.ownBlock ≠ some Q ∧ wr.heap[B + 1]? = some (.cells #[.int .i64 0, .slice none 0 0] 43 (0, 0)) ∧ Fr [] w wr ∧ Q < wr.heap.size ∧ W.heap.size ≤ wr.heap.size) (fun i _ => p.length - (intOf i).toNat)
    case atStart => exact ⟨0, _, s, by omega, rfl, Lib.hid (by simp), ⟨by omega, by omega, by omega⟩, q0, o0, hvQ, q1, g0, hQl, s1⟩
    case round =>
      obtain ⟨k, u, G, hk, rfl, HG, ⟨hG1, hG2, hkc⟩, r0, ow, huQ, r1, g, hQr, hWr⟩ := hrel
      clear q0 o0 q1 g0 hvl hvQ f1 hQl
      obtain ⟨ga, gc, rfl, hgc, hgm, _⟩ := ow.formB
      obtain ⟨x0, x1, x2, x3⟩ := cells_two r0
      have hex : ¬ ((k : Int) < p.length ∧ (G.length : Int) < c) → min p.length (c - s.length) = k := by intro h; omega
      have hend : Ow ((wr.setCell ⟨B + 1, 0, none⟩ (.int .i64 c)).setCell ⟨B + 1, 1, none⟩ (.slice ga G.length gc)) w.heap.size 5 (.slice ga G.length gc) ((bi G).map (Value.int .u8)) := by
        refine (Ow.mono ?_ (show w.heap.size ≤ W.heap.size by omega))
        exact (ow.keep (S := [B + 1]) (((Fr.refl [B + 1] wr).setCell (p := ⟨B + 1, 0, none⟩) (.inl (by simp)) (.int .i64 c)).setCell (p := ⟨B + 1, 1, none⟩) (.inl (by simp)) (.slice ga G.length gc)) (fun e he hm => by have := (ow.lt e he).1; simp at hm; omega))
      by_cases hlt : (k : Int) < p.length
      · by_cases hfull : (G.length : Int) < c
        · have hlt' : k < p.length := by omega
          obtain ⟨pb, po, rfl, hpb, hcell⟩ := HP.out _ g (by rw [bi_length]; omega)
          have hck := hcell k (by rw [bi_length]; exact hlt')
          rw [bi_getD p k hlt'] at hck
          have hnext : p.take (k + 1) = p.take k ++ [p[k]] := List.take_succ_eq_append_getElem hlt'
          generalize p[k] = y at *
          obtain ⟨G', hG'⟩ : ∃ G', G ++ [y] = G' := ⟨_, rfl⟩
          have hGl : G'.length = G.length + 1 := by rw [← hG', List.length_append, List.length_singleton]
          have hG3 : s.length + (k + 1) ≤ G'.length ∧ G'.length ≤ s.length + (k + 1) ∧ s.length + (k + 1) ≤ c := by omega
          have HN := Lib.hid (show G' = s ++ p.take (k + 1) from by rw [hnext, ← List.append_assoc, ← HG.out, hG'])
          have HGG := Lib.hid hG'
          have H3 : Hid (((bi G).map (Value.int .u8)).length + 1 ≤ maxLen) := Lib.hid (by rw [List.length_map, bi_length]; unfold maxLen; omega)
          have H4 : Hid ((((bi G).map (Value.int .u8)).length + 1) * 1 ≤ 140737488355328) := Lib.hid (by rw [List.length_map, bi_length]; omega)
          have HOW := Lib.hid fun (w' : World) (f : Fr [] wr w') => ow.keep f (by simp)
          have hob := ow.lt
          have y0 : (wr.alloc (.cells #[.int .u8 y.toNat] 5)).cell? ⟨Q, 1, none⟩ = some (.slice ga G.length gc) := cell_of (keepA r0)
          have HX := Lib.hid (And.intro huQ (And.intro r1 (And.intro r0 (And.intro g hob))))
          have hgsz : W.heap.size ≤ wr.heap.size := hWr
          have HM : Hid (W.heap.size ≤ (wr.drew.alloc (.cells #[.int .u8 y.toNat] 5)).heap.size) := Lib.hid (by simp; omega)
          clear hnext hcell hex hend ow huQ hG' hGl hob r1
          go_wp2_with fail
          go_region_law ((refine step_append_fr2 (by simp [Region.wanted, yielded]) (.tmp 32) (.tmp 37) 29 (by rfl) 5 (.int .u8 0) 1 HU.out HIN.out rfl W.heap.size (.slice ga G.length gc) ((bi G).map (Value.int .u8)) (by simp [Act.eval]) (HOW.out _ ((Fr.refl _ _).drew.alloc _)) (some ⟨wr.heap.size, 0, none⟩) 1 1 [.int .u8 y.toNat] (by simp [Act.eval]) rfl (SlV.box wr.drew _ _) (one_byte _) H3.out H4.out HM.out ?_; intro v' w3 own3 f3 hb3; rw [own_snocB, HGG.out] at own3; obtain ⟨ga', gc', rfl, _⟩ := own3.formB; have q3 := f3.keep (keepA (w := wr.drew) r0) (fun hm => HX.out.1 (by simpa using hm)); have x2' := cell_of (i := 1) q3; have x3' := free_of (i := 1) q3))
          all_goals
            go_wp2_with fail
            go_roundw
            case rel =>
              obtain ⟨hu, hr1, hr0, hg, hob⟩ := HX.out
              have hne : (Value.slice ga' G'.length gc').ownBlock ≠ some Q := fun e => by
                rcases hb3 with h | h
                · rw [e] at h; exact hu h.symm
                · rw [e] at h; simp at h; omega
              have f5 : Fr [Q] w3 (w3.setCell ⟨Q, 1, none⟩ (.slice ga' G'.length gc')) := (Fr.refl _ _).setCell (.inl (by simp)) _
              have q5 := heap_setCell_eq (i := 1) (u := .slice ga' G'.length gc') q3
              have g3 : Fr [] w w3 := (hg.drew.alloc _).own f3 (fun k e => .inr (by have := hob k e; omega))
              have q4 := f3.keep (keepA (w := wr.drew) hr1) (fun hm => by have := hob (B + 1) (by simpa using hm); omega)
              have hz3 := f3.size
              exact ⟨k + 1, _, G', by omega, by go_num, HN, hG3, by simpa using q5, own3.keep f5 (fun j e hm => by simp at hm; subst hm; exact hne e), hne, keepS q4 (by dsimp only; omega), g3.setCell (.inr (by dsimp only; omega)) _, by rw [World.size_setCell]; simp at hz3; omega, by rw [World.size_setCell]; simp at hz3; omega⟩
            case measure => simp [intOf]; omega
        · have HEX := Lib.hid (hex (by omega))
          have HEND := Lib.hid hend
          obtain ⟨m0, m1, m2, m3⟩ := cells_two r1
          clear hex hend
          go_wp2_with fail
          have hts := two_set (u0 := .int .i64 c) (u1 := .slice ga G.length gc) r1
          obtain ⟨z0, z1, _, _⟩ := cells_two hts
          refine bodyPost_ret (v := .tuple #[.agg #[.int .i64 c, .slice ga G.length gc], .int .i64 k, .int .i64 0]) (by simp [results, Try.results34, go_sem, z0, z1]) rfl ?_
          rw [HEX.out, ← HG.out]
          exact ⟨_, rfl, (g.setCell (.inr (by dsimp only; omega)) _).setCell (.inr (by dsimp only; omega)) _, HEND.out⟩
      · have HEX := Lib.hid (hex (by omega))
        have HEND := Lib.hid hend
        obtain ⟨m0, m1, m2, m3⟩ := cells_two r1
        clear hex hend
        go_wp2_with fail
        have hts := two_set (u0 := .int .i64 c) (u1 := .slice ga G.length gc) r1
        obtain ⟨z0, z1, _, _⟩ := cells_two hts
        refine bodyPost_ret (v := .tuple #[.agg #[.int .i64 c, .slice ga G.length gc], .int .i64 k, .int .i64 0]) (by simp [results, Try.results34, go_sem, z0, z1]) rfl ?_
        rw [HEX.out, ← HG.out]
        exact ⟨_, rfl, (g.setCell (.inr (by dsimp only; omega)) _).setCell (.inr (by dsimp only; omega)) _, HEND.out⟩
end
end Go.Proofs.Ytpkgjgfdobcboaa
