/-
  Law 5: a rope, or the error, as one pair of parts and code; made; the reference's Join.
-/
import Derived.Test.YtpkgjgfdobcboaaRef05c
import Derived.Test.YtpkgjgfdobcboaaRangeG
namespace Go.Proofs.Ytpkgjgfdobcboaa
open Go.RowKit
set_option maxRecDepth 100000

/-- What New makes of some parts: the parts, and the error. -/
def newP (P : Parts) : Parts := if 1024 < (own P).length then [] else if 65536 < tot P then [] else own P
def newE (P : Parts) : Int := if 1024 < (own P).length then 7 else if 65536 < tot P then 5 else 0
theorem newP_full (P : Parts) : Full (newP P) := by
  unfold newP
  split
  · intro p hp; simp at hp
  · split
    · intro p hp; simp at hp
    · exact own_full P
theorem newP_len (P : Parts) : (newP P).length ≤ 1024 ∧ tot (newP P) ≤ 65536 := by
  unfold newP
  split
  · simp [tot]
  · split
    · simp [tot]
    · refine ⟨by omega, ?_⟩
      have : tot (own P) = tot P := by unfold tot; rw [own_flat]
      omega
theorem own_of_full {P : Parts} (h : Full P) : own P = P := List.filter_eq_self.2 fun p hp => by simpa using h p hp

def NewU (P : Parts) (w : World) (e : Ending) (w' : World) : Prop :=
  Fr [] w w' ∧ ∃ v, e = .returned (.tuple #[v, .int .i64 (newE P)]) ∧ Rp w' (fun b => w.heap.size ≤ b) v (newP P)
theorem rope_newU {w : World} {N : Nat → Prop} {a : Option Addr} {len cap : Nat} {P : Parts} (h : PartsAt w N a P) (hl : len = P.length) (hm : len ≤ maxLen) :
    Calls Try.prog 43 #[.slice a len cap] w (NewU P w) := by
  refine (rope_new h hl hm).mono ?_
  rintro e w' ⟨f, he⟩
  unfold NewU newP newE
  by_cases h1 : 1024 < (own P).length
  · rw [if_pos h1] at he
    rw [if_pos h1, if_pos h1]
    exact ⟨f, _, he, Rp.none_ _ _⟩
  · rw [if_neg h1] at he
    rw [if_neg h1, if_neg h1]
    by_cases h2 : 65536 < tot P
    · rw [if_pos h2] at he
      rw [if_pos h2, if_pos h2]
      exact ⟨f, _, he, Rp.none_ _ _⟩
    · rw [if_neg h2] at he
      rw [if_neg h2, if_neg h2]
      exact ⟨f, he⟩
def JoinU (N : Nat → Prop) (L : Parts) (w : World) (e : Ending) (w' : World) : Prop :=
  Fr [] w w' ∧ ∃ v, e = .returned (.tuple #[v, .int .i64 (newE L)]) ∧ Rp w' (fun b => N b ∨ w.heap.size ≤ b) v (newP L)
theorem rope_joinU {w : World} {N : Nat → Prop} {v u : Value} {P Q : Parts} (h : Rp w N v P) (k : Rp w N u Q) (hP : Full P) (hQ : Full Q) :
    Calls Try.prog 53 #[v, u] w (JoinU N (P ++ Q) w) := by
  refine (rope_join h k).mono ?_
  rintro e w' ⟨f, he⟩
  unfold JoinU newP newE
  rw [own_of_full (hP.append hQ), tot_append, List.length_append]
  by_cases h1 : 1024 < P.length + Q.length
  · rw [if_pos h1] at he
    rw [if_pos h1, if_pos h1]
    exact ⟨f, _, he, Rp.none_ _ _⟩
  · rw [if_neg h1] at he
    rw [if_neg h1, if_neg h1]
    by_cases h2 : 65536 < tot P + tot Q
    · rw [if_pos h2] at he
      rw [if_pos h2, if_pos h2]
      exact ⟨f, _, he, Rp.none_ _ _⟩
    · rw [if_neg h2] at he
      rw [if_neg h2, if_neg h2]
      exact ⟨f, he⟩
def RefU (P : Parts) (w : World) (e : Ending) (w' : World) : Prop :=
  Fr [] w w' ∧ ∃ v, e = .returned (.tuple #[v, .int .i64 (newE P)]) ∧ Rs w' (fun b => w.heap.size ≤ b) v (newP P)
theorem RefNew.u {P : Parts} {w w' : World} {e : Ending} (h : RefNew P w e w') : RefU P w e w' := by
  obtain ⟨f, he⟩ := h
  unfold RefU newP newE
  by_cases h1 : 1024 < (own P).length
  · rw [if_pos h1] at he
    rw [if_pos h1, if_pos h1]
    exact ⟨f, _, he, Rs.none_ _ _⟩
  · rw [if_neg h1] at he
    rw [if_neg h1, if_neg h1]
    by_cases h2 : 65536 < tot P
    · rw [if_pos h2] at he
      rw [if_pos h2, if_pos h2]
      exact ⟨f, _, he, Rs.none_ _ _⟩
    · rw [if_neg h2] at he
      rw [if_neg h2, if_neg h2]
      exact ⟨f, he⟩

set_option maxHeartbeats 2000000 in
theorem made05 {w : World} {a : Option Addr} {len cap : Nat} {ss : Parts} (hs : SlV w a (ss.map fun l => Value.string (st l))) (hl : len = ss.length) (hm : len ≤ 100000) (hx : ∀ p ∈ ss, p.length ≤ 1000000) :
    Calls Try.prog 47 #[.slice a len cap] w (NewU ss w) := by
  subst hl
  have hi : (ss.length : Int) ≤ 100000 := by omega
  have HU : Hid (Try.prog.underlying 63 = some (.slice 29)) := Lib.hid Try.underlying63
  have HIN : Hid ((Try.prog.info? 29).map (fun i => (i.zero, i.size, i.bytes)) = some (some (.slice none 0 0), 1, 24)) := Lib.hid (by kernel_rfl)
  have HX := Lib.hid hx
  clear hx
  go_enter Try.func47, Try.ntmps47
  go_wp2_with fail
  obtain ⟨W, hW, f0, b0⟩ : ∃ W, W = w.alloc (Obj.cells #[Value.slice none 0 0, Value.int IntKind.i64 0] 65) ∧ Fr [] w W ∧ W.heap[w.heap.size]? = some (.cells #[.slice none 0 0, .int .i64 0] 65 (0, 0)) := ⟨_, rfl, (Fr.refl _ _).alloc _, newA rfl⟩
  have s0 : w.heap.size < W.heap.size := lt_of_heap b0
  rw [← hW]
  clear hW
  generalize hB : w.heap.size = B at *
  have hBl : w.heap.size ≤ B := by omega
  have hBr : B ≤ w.heap.size := by omega
  clear hB
  go_loopw [4, 9] (fun v i wr => ∃ (k : Nat) (vs : List Value), k ≤ ss.length ∧ i = .int .i64 k ∧ Gat wr W.heap.size v vs (ss.take k) ∧ wr.heap[B]? = some (.cells #[.slice none 0 0, .int .i64 0] 65 (0, 0)) ∧ Fr [] w wr ∧ W.heap.size ≤ wr.heap.size) (fun _ i _ => ss.length - (intOf i).toNat)
  case atStart => exact ⟨0, [], by omega, rfl, Gat.nil _ _, b0, f0, Nat.le_refl _⟩
  case round =>
    obtain ⟨k, vs, hk, rfl, gt, q0, g, hW⟩ := hrel
    clear b0 f0
    by_cases hlt : (k : Int) < ss.length
    · have hlt' : k < ss.length := by omega
      have hsw := hs.keep g (by simp)
      obtain ⟨b, o, rfl, hbl, hc⟩ := hsw (by simp; omega)
      have hcell : wr.cell? ⟨b, o + k, none⟩ = some (.string (st ss[k])) := by
        rw [hc k (by simpa using hlt'), List.getElem?_map, List.getElem?_eq_getElem hlt']
        rfl
      have hx := HX.out ss[k] (List.getElem_mem hlt')
      have hnext : ss.take (k + 1) = ss.take k ++ [ss[k]] := List.take_succ_eq_append_getElem hlt'
      obtain ⟨ga, gc, rfl, _, _, _⟩ := gt.parts
      have hvl := gt.2.1
      have hcv := Lib.run_convert_string_bytes (P := Try.prog) wr 9 29 5 (st ss[k]) Try.underlying9 Try.underlying29 Try.underlying5
      rw [st_size] at hcv
      generalize ss[k] = p at *
      generalize hQ : ss.take k = Q at *
      have hql : Q.length ≤ 100000 := by rw [← hQ, List.length_take]; omega
      have f1 : Fr [] wr (Lib.bytesWorld wr 5 (st p)) := Fr.bytesWorld wr 5 ⟨p.toArray⟩
      have s1 : Sl (Lib.bytesWorld wr 5 (st p)) (some ⟨wr.heap.size, 0, none⟩) (bi p) := Sl.bytesWorld wr 5 p
      have hg : p.length ≤ grownCap wr p.length 0 5 := grownCap_ge _ _ _ _
      have hgm : grownCap wr p.length 0 5 ≤ maxLen := grownCap_le_maxLen _ _ _ _ (by unfold maxLen; omega)
      have sz : (Lib.bytesWorld wr 5 (st p)).heap.size = wr.heap.size + 1 := Lib.bytesWorld_size _ _ _
      generalize Lib.bytesWorld wr 5 (st p) = w1 at *
      generalize grownCap wr p.length 0 5 = C at *
      have pv : PartV w1 (fun b => wr.heap.size ≤ b ∧ b < w1.heap.size) (.slice (some ⟨wr.heap.size, 0, none⟩) p.length C) p := ⟨_, _, rfl, hg, hgm, s1, fun b o _ e => by injection e with e; injection e with e1; omega⟩
      have SZ := Lib.hid sz
      have HN := Lib.hid hnext
      have gt1 := gt.keep f1 (by simp)
      have HG := Lib.hid (gt1.keep ((Fr.refl [] w1).alloc (.cells #[.slice (some ⟨wr.heap.size, 0, none⟩) p.length C] 29)) (by simp)).1
      have hWs : W.heap.size ≤ (w1.alloc (.cells #[.slice (some ⟨wr.heap.size, 0, none⟩) p.length C] 29)).heap.size := by simp; omega
      have H3 : Hid (vs.length + 1 ≤ maxLen) := Lib.hid (by unfold maxLen; omega)
      have H4 : Hid ((vs.length + 1) * 24 ≤ 140737488355328) := Lib.hid (by omega)
      have hown : ∀ k, (Value.slice ga Q.length gc).ownBlock = some k → B < k := fun k e => by have := (gt.1.lt k e).1; omega
      have HOWN := Lib.hid hown
      clear hnext hQ sz hc hsw s1 hown hvl
      go_wp2_with (refine wpList_append_fr _ rfl (.tmp 13) (.tmp 16) 63 rfl 29 (.slice none 0 0) 24 HU.out HIN.out rfl W.heap.size (.slice ga Q.length gc) vs (by exact rfl) HG.out (some ⟨w1.heap.size, 0, none⟩) 1 1 [.slice (some ⟨wr.heap.size, 0, none⟩) p.length C] (by exact rfl) rfl (SlV.box _ _ _) (one_slice _ _ _) H3.out H4.out hWs ?_)
      intro v' w3 o3 f3 hb
      have gt3 := gt.push (f1.alloc _) f3 (by simpa using hb) o3.out ((pv.keep ((Fr.refl [] w1).alloc _) (by simp)).mono (fun x hx => ⟨hx.1, by simp; omega⟩)) hW
      have g3 : Fr [] w w3 := ((g.then0 f1).alloc _).own f3 (fun k e => .inr (by have := HOWN.out k e; omega))
      have q3 : w3.heap[B]? = some (.cells #[.slice none 0 0, .int .i64 0] 65 (0, 0)) := f3.keep (keepA (f1.keep q0 (by simp))) (fun hm => by have := HOWN.out B (by simpa using hm); omega)
      have hW3 : W.heap.size ≤ w3.heap.size := Nat.le_trans hWs f3.size
      clear o3 f3 hb gt1 pv HG hWs hcv
      go_wp2_with fail
      go_roundw
      case rel => exact ⟨k + 1, _, by omega, by go_num, by rw [HN.out]; exact gt3, q3, g3, hW3⟩
      case measure => simp [intOf]; omega
    · have hkk : ss.take k = ss := List.take_of_length_le (by omega)
      rw [hkk] at gt
      clear hkk
      obtain ⟨ga, gc, rfl, hgc, hgm, hpa⟩ := gt.parts
      have HNW := Lib.hid (rope_newU (cap := gc) hpa rfl (Nat.le_trans hgc hgm))
      obtain ⟨O, hO⟩ : ∃ O, newP ss = O := ⟨_, rfl⟩
      obtain ⟨er, her⟩ : ∃ er, newE ss = er := ⟨_, rfl⟩
      unfold NewU at HNW
      rw [hO, her] at HNW
      have HO := Lib.hid (And.intro hO her)
      clear hO her
      go_wp2_with fail
      refine HNW.out.mono ?_
      rintro e w2 ⟨f2, v, rfl, hr⟩
      have q2 := f2.keep q0 (by simp)
      have g2 := g.then0 f2
      have hrw : wr.heap.size ≤ w2.heap.size := f2.size
      obtain ⟨va, vc, rfl, _⟩ := id hr
      have x0 : w2.cell? ⟨B, 0, none⟩ = some (.slice none 0 0) := cell_of q2
      have x1 : w2.cell? ⟨B, 1, none⟩ = some (.int .i64 0) := cell_of q2
      have x2 : w2.frozen? ⟨B, 0, none⟩ = false := free_of q2
      have x3 : w2.frozen? ⟨B, 1, none⟩ = false := free_of q2
      have hBw : B < w2.heap.size := lt_of_heap q2
      obtain ⟨z0, z1⟩ := two_cells (u0 := .slice va O.length vc) (u1 := .int .i64 (tot O)) q2
      go_wp2_with fail
      have f4 : Fr [B] w2 ((w2.setCell ⟨B, 0, none⟩ (.slice va O.length vc)).setCell ⟨B, 1, none⟩ (.int .i64 (tot O))) := ((Fr.refl [B] w2).setCell (.inl (by simp)) _).setCell (.inl (by simp)) _
      refine bodyPost_ret (v := .tuple #[.agg #[.slice va O.length vc, .int .i64 (tot O)], .int .i64 er]) (by simp [results, Try.results47, go_sem, z0, z1]) rfl ?_
      unfold NewU
      rw [HO.out.1, HO.out.2]
      exact ⟨g2.trans f4 (by simp) (by simp; omega), _, rfl, (hr.keep f4 (by simp; omega)).mono (fun x hx => by omega)⟩

set_option maxHeartbeats 4000000 in
theorem ref5_join {w : World} {N N' : Nat → Prop} {v u : Value} {P Q : Parts} (h : Rs w N v P) (k : Rs w N' u Q) (hn : P.length ≤ 10000) (hn' : Q.length ≤ 10000) (ht : tot P ≤ 100000) (ht' : tot Q ≤ 100000) :
    Calls Try.prog 54 #[v, u] w (RefU (P ++ Q) w) := by
  obtain ⟨a, cap, rfl, h1, h2, h3, _⟩ := h
  obtain ⟨b, dap, rfl, k1, k2, k3, _⟩ := k
  have HU : Hid (Try.prog.underlying 61 = some (.slice 9)) := Lib.hid Try.underlying61
  have HIN : Hid ((Try.prog.info? 9).map (fun i => (i.zero, i.size, i.bytes)) = some (some (.string ByteArray.empty), 1, 16)) := Lib.hid (by kernel_rfl)
  have hS1 : (P ++ Q).length = P.length + Q.length := List.length_append
  have hS2 := tot_append P Q
  obtain ⟨S, hS⟩ : ∃ S, P ++ Q = S := ⟨_, rfl⟩
  rw [hS] at hS1 hS2 ⊢
  have HSS := Lib.hid (show sv P ++ sv Q = sv S from by rw [← sv_append, hS])
  have HO1 := Lib.hid (sv_one P)
  have HO2 := Lib.hid (sv_one Q)
  have H3 : Hid (([] : List Value).length + P.length ≤ maxLen) := Lib.hid (by unfold maxLen; simp; omega)
  have H4 : Hid ((([] : List Value).length + P.length) * 16 ≤ 140737488355328) := Lib.hid (by simp; omega)
  have H5 : Hid ((sv P).length + Q.length ≤ maxLen) := Lib.hid (by rw [sv_len]; unfold maxLen; omega)
  have H6 : Hid (((sv P).length + Q.length) * 16 ≤ 140737488355328) := Lib.hid (by rw [sv_len]; omega)
  have HNEW := Lib.hid fun (w' : World) (a : Option Addr) (c : Nat) (h : SlV w' a (sv S)) => (ref5_new (cap := c) h (sv_len S) (by omega) (by omega)).mono fun e w2 hr => hr.u
  have HSL1 := Lib.hid fun (w' : World) (f : Fr [] w w') => h3.keep f (by simp)
  have HSL2 := Lib.hid fun (w' : World) (f : Fr [] w w') => k3.keep f (by simp)
  have HL1 := Lib.hid (sv_len P)
  have HL2 := Lib.hid (sv_len Q)
  clear hS hS1 hS2 h3 k3
  obtain ⟨X, hX⟩ : ∃ X, newP S = X := ⟨_, rfl⟩
  obtain ⟨er, her⟩ : ∃ er, newE S = er := ⟨_, rfl⟩
  unfold RefU at HNEW ⊢
  rw [hX, her] at HNEW ⊢
  clear hX her
  go_enter Try.func54, Try.ntmps54
  go_wp2_with fail
  obtain ⟨W, hW, f0, b0, b1, b2⟩ : ∃ W, W = (((w.alloc (.cells #[.slice a P.length cap] 69)).alloc (.cells #[.slice b Q.length dap] 69)).alloc (.cells #[.slice none 0 0] 69)) ∧ Fr [] w W ∧ W.heap[w.heap.size]? = some (.cells #[.slice a P.length cap] 69 (0, 0)) ∧ W.heap[w.heap.size + 1]? = some (.cells #[.slice b Q.length dap] 69 (0, 0)) ∧ W.heap[w.heap.size + 1 + 1]? = some (.cells #[.slice none 0 0] 69 (0, 0)) := ⟨_, rfl, (((Fr.refl _ _).alloc _).alloc _).alloc _, keepA (keepA (newA rfl)), keepA (newA (by simp)), newA (by simp)⟩
  rw [← hW]
  clear hW
  have hlt := lt_of_heap b2
  have HS := Lib.hid fun (w' : World) (f : Fr [] W w') => (show w'.cell? ⟨w.heap.size, 0, none⟩ = some (.slice a P.length cap) ∧ w'.cell? ⟨w.heap.size + 1, 0, none⟩ = some (.slice b Q.length dap) from ⟨cell_of (f.keep b0 (by simp)), cell_of (f.keep b1 (by simp))⟩)
  obtain ⟨c0, c1⟩ := HS.out _ (Fr.refl _ _)
  go_region_held3 (fun w' => w'.cell? ⟨w.heap.size, 0, none⟩ = some (.slice a P.length cap) ∧ w'.cell? ⟨w.heap.size + 1, 0, none⟩ = some (.slice b Q.length dap))
    (first | (with_reducible exact ⟨t0, t1⟩) | (with_reducible exact ⟨c0, c1⟩) | (with_reducible exact HT.out) | ((with_reducible refine HS.out _ ?_; repeat first | (with_reducible exact f5) | (with_reducible exact fb) | (with_reducible exact fa) | (with_reducible exact Fr.refl _ _) | (with_reducible refine Fr.drew ?_) | (with_reducible refine Fr.alloc ?_ _)); done))
    (first
     | (refine step_append_fr2 (by simp [Region.wanted, yielded]) (.const (.slice none 0 0)) (.tmp 7) 61 rfl 9 (.string ByteArray.empty) 16 HU.out HIN.out rfl W.heap.size (.slice none 0 0) [] (by simp [Act.eval]) (Ow.nil _ _ _) a P.length cap (sv P) (by simp [Act.eval]) HL1.out (HSL1.out _ (f0.then0 ((Fr.refl _ _).drew))) HO1.out H3.out H4.out (Nat.le_refl _) ?_; intro v3 w3 own3 fa' hb3; have fa : Fr [] W w3 := Fr.undrew (show Fr [] W.drew w3 from fa'); rw [List.nil_append] at own3; obtain ⟨ga, gc, rfl, _⟩ := own3.form; obtain ⟨t0, t1⟩ := HS.out _ fa; have hz3 := fa.size)
     | (refine step_append_fr2 (by simp [Region.wanted, yielded]) (.tmp 8) (.tmp 10) 61 rfl 9 (.string ByteArray.empty) 16 HU.out HIN.out rfl W.heap.size (.slice ga (sv P).length gc) (sv P) (by simp [Act.eval]) own3 b Q.length dap (sv Q) (by simp [Act.eval]) HL2.out (HSL2.out _ (f0.then0 fa)) HO2.out H5.out H6.out hz3 ?_; intro v4 w4 own4 fb' hb4; have fb : Fr [] W w4 := fa.own fb' (fun k e => .inr (own3.lt k e).1); rw [HSS.out] at own4; obtain ⟨ha, hc, rfl, _, _, hs4, _⟩ := own4.form; obtain ⟨t0, t1⟩ := HS.out _ fb)
     | (go_at_call 44; ((with_reducible refine (HNEW.out w4 ha hc hs4).mono ?_); rintro e w5 ⟨f5', q, rfl, hq⟩; have f5 : Fr [] W w5 := fb.then0 f5'; obtain ⟨qa, qc, rfl, _⟩ := id hq; obtain ⟨t0, t1⟩ := HS.out _ f5; have b5 := f5.keep b2 (by simp); have x2 : w5.cell? ⟨w.heap.size + 1 + 1, 0, none⟩ = some (.slice none 0 0) := cell_of b5; have x3 : w5.frozen? ⟨w.heap.size + 1 + 1, 0, none⟩ = false := free_of b5; have HT : Hid ((w5.setCell ⟨w.heap.size + 1 + 1, 0, none⟩ (.slice qa X.length qc)).cell? ⟨w.heap.size, 0, none⟩ = some (.slice a P.length cap) ∧ (w5.setCell ⟨w.heap.size + 1 + 1, 0, none⟩ (.slice qa X.length qc)).cell? ⟨w.heap.size + 1, 0, none⟩ = some (.slice b Q.length dap)) := Lib.hid ⟨cell_of (keepS (f5.keep b0 (by simp)) (by dsimp only; omega)), cell_of (keepS (f5.keep b1 (by simp)) (by dsimp only; omega))⟩)))
  go_wp2_with fail
  have hts := heap_setCell_eq (i := 0) (u := .slice qa X.length qc) b5
  have z0 : (w5.setCell ⟨w.heap.size + 1 + 1, 0, none⟩ (.slice qa X.length qc)).cell? ⟨w.heap.size + 1 + 1, 0, none⟩ = some (.slice qa X.length qc) := by rw [cell_of hts]; simp
  refine bodyPost_ret (v := .tuple #[.agg #[.slice qa X.length qc], .int .i64 er]) (by simp [results, Try.results54, go_sem, z0]) rfl ?_
  have hz4 := fb.size
  have fE : Fr [w.heap.size + 1 + 1] w5 (w5.setCell ⟨w.heap.size + 1 + 1, 0, none⟩ (.slice qa X.length qc)) := (Fr.refl _ _).setCell (.inl (by simp)) _
  refine ⟨?_, _, rfl, ?_⟩
  · repeat first | (with_reducible exact f0.then0 f5) | (with_reducible refine Fr.drew ?_) | (with_reducible refine Fr.drewN ?_ _) | (with_reducible refine Fr.setCell ?_ (.inr (by dsimp only; omega)) _)
  · exact ((hq.keep fE (by simp; omega)).keep (S := []) (by repeat first | (with_reducible exact Fr.refl _ _) | (with_reducible refine Fr.drew ?_) | (with_reducible refine Fr.drewN ?_ _)) (by simp)).mono (fun x hx => by omega)
end Go.Proofs.Ytpkgjgfdobcboaa
