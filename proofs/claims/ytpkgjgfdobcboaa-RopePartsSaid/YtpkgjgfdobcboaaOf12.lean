/-
  Layer 12's law: its helpers over rope and meet.
-/
import Derived.Test.YtpkgjgfdobcboaaMeetTake
namespace Go.Proofs.Ytpkgjgfdobcboaa
open Go.RowKit
set_option maxRecDepth 100000

set_option maxHeartbeats 2000000 in
theorem of12 {w : World} {a : Option Addr} {len cap : Nat} {ss : Parts} (hs : SlV w a (ss.map fun l => Value.string (st l))) (hl : len = ss.length) (hm : len ≤ 100000) (hx : ∀ p ∈ ss, p.length ≤ 1000000) (h1 : (own ss).length ≤ 1024) (h2 : tot ss ≤ 65536) :
    Calls Try.prog 62 #[.slice a len cap] w fun e w' => ∃ v, e = .returned (v) ∧ Fr [] w w' ∧ Rp w' (fun b => w.heap.size ≤ b) v (own ss) := by
  subst hl
  have hi : (ss.length : Int) ≤ 100000 := by omega
  have HU : Hid (Try.prog.underlying 63 = some (.slice 29)) := Lib.hid Try.underlying63
  have HIN : Hid ((Try.prog.info? 29).map (fun i => (i.zero, i.size, i.bytes)) = some (some (.slice none 0 0), 1, 24)) := Lib.hid (by kernel_rfl)
  have HX := Lib.hid hx
  have H1 := Lib.hid h1
  have H2 := Lib.hid h2
  clear hx h1 h2
  go_enter Try.func62, Try.ntmps62
  go_wp2_with fail
  obtain ⟨W, hW, f0, b0⟩ : ∃ W, W = w.alloc (Obj.cells #[Value.slice none 0 0, Value.int IntKind.i64 0] 65) ∧ Fr [] w W ∧ W.heap[w.heap.size]? = some (.cells #[.slice none 0 0, .int .i64 0] 65 (0, 0)) := ⟨_, rfl, (Fr.refl _ _).alloc _, newA rfl⟩
  have s0 : w.heap.size < W.heap.size := lt_of_heap b0
  rw [← hW]
  clear hW
  generalize hB : w.heap.size = B at *
  have hBl : w.heap.size ≤ B := by omega
  have hBr : B ≤ w.heap.size := by omega
  clear hB
  go_loopw [3, 10] (fun v i wr => ∃ (k : Nat) (vs : List Value), k ≤ ss.length ∧ i = .int .i64 k ∧ Gat wr W.heap.size v vs (ss.take k) ∧ wr.heap[B]? = some (.cells #[.slice none 0 0, .int .i64 0] 65 (0, 0)) ∧ Fr [] w wr ∧ W.heap.size ≤ wr.heap.size) (fun _ i _ => ss.length - (intOf i).toNat)
  case atStart => exact ⟨0, [], by omega, rfl, Gat.nil _ _, b0, f0, Nat.le_refl _⟩
  case round =>
    obtain ⟨k, vs, hk, rfl, gt, q0, g, hW⟩ := hrel
    clear b0 f0
    by_cases hlt : (k : Int) < ss.length
    · have hlt' : k < ss.length := by omega
      have hsw := hs.keep g (by simp)
      obtain ⟨b, o, rfl, hbl, hc⟩ := hsw (by simp; omega)
      have hcell : wr.cell? ⟨b, o + k, none⟩ = some (.string (st ss[k])) := by
        rw [hc k (by simpa using hlt'), List.getElem?_map, List.getElem?_eq_getElem hlt']
        rfl
      have hx := HX.out ss[k] (List.getElem_mem hlt')
      have hnext : ss.take (k + 1) = ss.take k ++ [ss[k]] := List.take_succ_eq_append_getElem hlt'
      obtain ⟨ga, gc, rfl, _, _, _⟩ := gt.parts
      have hvl := gt.2.1
      have hcv := Lib.run_convert_string_bytes (P := Try.prog) wr 9 29 5 (st ss[k]) Try.underlying9 Try.underlying29 Try.underlying5
      rw [st_size] at hcv
      generalize ss[k] = p at *
      generalize hQ : ss.take k = Q at *
      have hql : Q.length ≤ 100000 := by rw [← hQ, List.length_take]; omega
      have f1 : Fr [] wr (Lib.bytesWorld wr 5 (st p)) := Fr.bytesWorld wr 5 ⟨p.toArray⟩
      have s1 : Sl (Lib.bytesWorld wr 5 (st p)) (some ⟨wr.heap.size, 0, none⟩) (bi p) := Sl.bytesWorld wr 5 p
      have hg : p.length ≤ grownCap wr p.length 0 5 := grownCap_ge _ _ _ _
      have hgm : grownCap wr p.length 0 5 ≤ maxLen := grownCap_le_maxLen _ _ _ _ (by unfold maxLen; omega)
      have sz : (Lib.bytesWorld wr 5 (st p)).heap.size = wr.heap.size + 1 := Lib.bytesWorld_size _ _ _
      generalize Lib.bytesWorld wr 5 (st p) = w1 at *
      generalize grownCap wr p.length 0 5 = C at *
      have pv : PartV w1 (fun b => wr.heap.size ≤ b ∧ b < w1.heap.size) (.slice (some ⟨wr.heap.size, 0, none⟩) p.length C) p := ⟨_, _, rfl, hg, hgm, s1, fun b o _ e => by injection e with e; injection e with e1; omega⟩
      have SZ := Lib.hid sz
      have HN := Lib.hid hnext
      have gt1 := gt.keep f1 (by simp)
      have HG := Lib.hid (gt1.keep ((Fr.refl [] w1).alloc (.cells #[.slice (some ⟨wr.heap.size, 0, none⟩) p.length C] 29)) (by simp)).1
      have hWs : W.heap.size ≤ (w1.alloc (.cells #[.slice (some ⟨wr.heap.size, 0, none⟩) p.length C] 29)).heap.size := by simp; omega
      have H3 : Hid (vs.length + 1 ≤ maxLen) := Lib.hid (by unfold maxLen; omega)
      have H4 : Hid ((vs.length + 1) * 24 ≤ 140737488355328) := Lib.hid (by omega)
      have hown : ∀ k, (Value.slice ga Q.length gc).ownBlock = some k → B < k := fun k e => by have := (gt.1.lt k e).1; omega
      have HOWN := Lib.hid hown
      clear hnext hQ sz hc hsw s1 hown hvl
      go_wp2_with (refine wpList_append_fr _ rfl (.tmp 14) (.tmp 17) 63 rfl 29 (.slice none 0 0) 24 HU.out HIN.out rfl W.heap.size (.slice ga Q.length gc) vs (by exact rfl) HG.out (some ⟨w1.heap.size, 0, none⟩) 1 1 [.slice (some ⟨wr.heap.size, 0, none⟩) p.length C] (by exact rfl) rfl (SlV.box _ _ _) (one_slice _ _ _) H3.out H4.out hWs ?_)
      intro v' w3 o3 f3 hb
      have gt3 := gt.push (f1.alloc _) f3 (by simpa using hb) o3.out ((pv.keep ((Fr.refl [] w1).alloc _) (by simp)).mono (fun x hx => ⟨hx.1, by simp; omega⟩)) hW
      have g3 : Fr [] w w3 := ((g.then0 f1).alloc _).own f3 (fun k e => .inr (by have := HOWN.out k e; omega))
      have q3 : w3.heap[B]? = some (.cells #[.slice none 0 0, .int .i64 0] 65 (0, 0)) := f3.keep (keepA (f1.keep q0 (by simp))) (fun hm => by have := HOWN.out B (by simpa using hm); omega)
      have hW3 : W.heap.size ≤ w3.heap.size := Nat.le_trans hWs f3.size
      clear o3 f3 hb gt1 pv HG hWs hcv
      go_wp2_with fail
      go_roundw
      case rel => exact ⟨k + 1, _, by omega, by go_num, by rw [HN.out]; exact gt3, q3, g3, hW3⟩
      case measure => simp [intOf]; omega
    · have hkk : ss.take k = ss := List.take_of_length_le (by omega)
      rw [hkk] at gt
      clear hkk
      obtain ⟨ga, gc, rfl, hgc, hgm, hpa⟩ := gt.parts
      have HNW := Lib.hid (rope_new (cap := gc) hpa rfl (Nat.le_trans hgc hgm))
      go_wp2_with fail
      refine HNW.out.mono ?_
      rintro e w2 ⟨f2, he⟩
      rw [if_neg (by have := H1.out; omega), if_neg (by have := H2.out; omega)] at he
      obtain ⟨v, rfl, hr⟩ := he
      have q2 := f2.keep q0 (by simp)
      have g2 := g.then0 f2
      have hrw : wr.heap.size ≤ w2.heap.size := f2.size
      obtain ⟨O, hO⟩ : ∃ O, own ss = O := ⟨_, rfl⟩
      rw [hO] at hr
      have HO := Lib.hid hO
      clear hO
      obtain ⟨va, vc, rfl, _⟩ := id hr
      have x0 : w2.cell? ⟨B, 0, none⟩ = some (.slice none 0 0) := cell_of q2
      have x1 : w2.cell? ⟨B, 1, none⟩ = some (.int .i64 0) := cell_of q2
      have x2 : w2.frozen? ⟨B, 0, none⟩ = false := free_of q2
      have x3 : w2.frozen? ⟨B, 1, none⟩ = false := free_of q2
      have hBw : B < w2.heap.size := lt_of_heap q2
      go_wp2_with fail
      obtain ⟨w4, hw4⟩ : ∃ w4, w4 = (((w2.setCell { block := B, off := 0 } (Value.slice va (List.length O) vc)).setCell { block := B, off := 1 } (Value.int IntKind.i64 (tot O))).alloc (Obj.cells #[Value.slice va (List.length O) vc, Value.int IntKind.i64 (tot O)] 65)) := ⟨_, rfl⟩
      rw [← hw4]
      have z : w4.heap[B]? = some (.cells #[.slice va O.length vc, .int .i64 (tot O)] 65 (0, 0)) := by rw [hw4]; exact keepA (two_set q2)
      have f4 : Fr [B] w2 w4 := by rw [hw4]; exact (((Fr.refl [B] w2).setCell (.inl (by simp)) _).setCell (.inl (by simp)) _).alloc _
      have z0 : w4.cell? ⟨B, 0, none⟩ = some (.slice va O.length vc) := cell_of z
      have z1 : w4.cell? ⟨B, 1, none⟩ = some (.int .i64 (tot O)) := cell_of z
      refine bodyPost_ret (v := .agg #[.slice va O.length vc, .int .i64 (tot O)]) (by simp [results, Try.results62, go_sem, z0, z1]) rfl ?_
      rw [HO.out]
      exact ⟨_, rfl, g2.trans f4 (by simp) (by simp; omega), (hr.keep f4 (by simp; omega)).mono (fun x hx => by omega)⟩
end Go.Proofs.Ytpkgjgfdobcboaa
