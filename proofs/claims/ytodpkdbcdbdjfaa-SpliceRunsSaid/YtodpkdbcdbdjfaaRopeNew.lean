/-
  rope.New: the rope of some parts, or the error.
-/
import Derived.Test.YtodpkdbcdbdjfaaRopeAt
namespace Go.Proofs.Ytodpkdbcdbdjfaa
open Go.RowKit
set_option maxRecDepth 100000

/-- A slice of one's own that has gathered the parts Q, all of it in memory from M on. -/
def Gat (w : World) (M : Nat) (v : Value) (vs : List Value) (Q : Parts) : Prop :=
  Ow w M 22 v vs ∧ vs.length = Q.length ∧ ∀ (i : Nat) (p : List UInt8), Q[i]? = some p → ∃ u, vs[i]? = some u ∧ PartV w (fun b => M ≤ b ∧ v.ownBlock ≠ some b) u p
theorem Gat.nil (w : World) (M : Nat) : Gat w M (.slice none 0 0) [] [] := ⟨Ow.nil _ _ _, rfl, by simp⟩
theorem Gat.keep {w w' : World} {M : Nat} {v : Value} {vs : List Value} {Q : Parts} (h : Gat w M v vs Q) {S : List Nat} (hf : Fr S w w') (hS : ∀ x ∈ S, x < M) : Gat w' M v vs Q :=
  ⟨h.1.keep hf (fun k e hm => by have := (h.1.lt k e).1; have := hS k hm; omega), h.2.1, fun i p hp => let ⟨u, hu, hq⟩ := h.2.2 i p hp; ⟨u, hu, hq.keep hf (fun x hx hn => by have := hS x hx; omega)⟩⟩
theorem Gat.push {wr w2 w3 : World} {M : Nat} {v v' cv : Value} {vs : List Value} {Q : Parts} {p : List UInt8} (h : Gat wr M v vs Q) (f2 : Fr [] wr w2) (f3 : Fr v.ownBlock.toList w2 w3)
    (hb : v'.ownBlock = v.ownBlock ∨ v'.ownBlock = some w2.heap.size) (o3 : Ow w3 M 22 v' (vs ++ [cv])) (hp : PartV w2 (fun b => wr.heap.size ≤ b ∧ b < w2.heap.size) cv p) (hM : M ≤ wr.heap.size) : Gat w3 M v' (vs ++ [cv]) (Q ++ [p]) := by
  obtain ⟨h1, h2, h3⟩ := h
  have hs := f2.size
  refine ⟨o3, by simp [h2], fun i q hq => ?_⟩
  rcases Nat.lt_or_ge i Q.length with hi | hi
  · rw [List.getElem?_append_left hi] at hq
    obtain ⟨u, hu, hv⟩ := h3 i q hq
    refine ⟨u, by rw [List.getElem?_append_left (by omega)]; exact hu, ?_⟩
    refine (((hv.there.keep f2 (by simp)).keep f3 ?_).mono ?_)
    · rintro x hx ⟨⟨_, hn⟩, _⟩
      exact hn (by simpa using hx)
    · rintro x ⟨⟨hx, hn⟩, hlt⟩
      refine ⟨hx, ?_⟩
      rcases hb with e | e
      · rw [e]; exact hn
      · rw [e]; intro e'; injection e' with e'; omega
  · rw [List.getElem?_append_right hi] at hq
    have hi0 : i - Q.length = 0 := by
      rcases Nat.eq_zero_or_pos (i - Q.length) with h | h
      · exact h
      · rw [List.getElem?_eq_none (by simp; omega)] at hq; cases hq
    rw [hi0] at hq
    simp only [List.getElem?_cons_zero, Option.some.injEq] at hq
    subst hq
    refine ⟨cv, by rw [List.getElem?_append_right (by omega), show i - vs.length = 0 from by omega]; rfl, ?_⟩
    refine (hp.keep f3 ?_).mono ?_
    · rintro x hx ⟨h1', _⟩
      have := (h1.lt x (by simpa using hx)).2
      omega
    · rintro x ⟨hx, hlt⟩
      refine ⟨by omega, ?_⟩
      rcases hb with e | e
      · rw [e]; intro e'; have := (h1.lt x e').2; omega
      · rw [e]; intro e'; injection e' with e'; omega
theorem Gat.parts {w : World} {M : Nat} {v : Value} {vs : List Value} {Q : Parts} (h : Gat w M v vs Q) : ∃ a cap, v = .slice a Q.length cap ∧ Q.length ≤ cap ∧ cap ≤ maxLen ∧ PartsAt w (fun b => M ≤ b) a Q :=
  PartsAt.of_own h.1 h.2.1 (fun i p hp => let ⟨u, hu, hv⟩ := h.2.2 i p hp; ⟨u, hu, hv.mono fun _ hx => hx.1⟩) (fun _ h => h)
theorem Gat.one {w : World} {M : Nat} {v : Value} {vs : List Value} {Q : Parts} (h : Gat w M v vs Q) : ∀ u ∈ vs, u.oneCell' = true := by
  intro u hu
  obtain ⟨i, hi, rfl⟩ := List.getElem_of_mem hu
  have hq : i < Q.length := by have := h.2.1; omega
  obtain ⟨u', hu', a, c, rfl, _⟩ := h.2.2 i Q[i] (List.getElem?_eq_getElem hq)
  rw [List.getElem?_eq_getElem hi] at hu'
  injection hu' with hu'
  rw [hu']
  rfl

/-- A clone is a part in new memory. -/
theorem PartV.of_ow {w w1 : World} {v : Value} {p : List UInt8} (h : Ow w1 w.heap.size 5 v ((bi p).map (Value.int .u8))) : PartV w1 (fun b => w.heap.size ≤ b ∧ b < w1.heap.size) v p := by
  obtain ⟨a, cap, hv, h1, h2, h3, h4⟩ := h.formB
  refine ⟨a, cap, hv, h1, h2, h3, fun b o h0 e => ⟨h4 b o e, ?_⟩⟩
  obtain ⟨b', o', e', hb, _⟩ := h3 (by rw [bi_length]; exact h0)
  rw [e] at e'
  injection e' with e'
  injection e' with e1
  omega

def NewPost (P : Parts) (w : World) (e : Ending) (w' : World) : Prop :=
  Fr [] w w' ∧ if 1024 < (own P).length then e = .returned (.tuple #[noRope, .int .i64 7]) else if 65536 < tot P then e = .returned (.tuple #[noRope, .int .i64 5]) else ∃ v, e = .returned (.tuple #[v, .int .i64 0]) ∧ Rp w' (fun b => w.heap.size ≤ b) v (own P)

set_option maxHeartbeats 2000000 in
theorem rope_new {w : World} {N : Nat → Prop} {a : Option Addr} {len cap : Nat} {P : Parts} (h : PartsAt w N a P) (hl : len = P.length) (hm : len ≤ maxLen) :
    Calls Try.prog 76 #[.slice a len cap] w (NewPost P w) := by
  subst hl
  unfold maxLen at hm
  have hi : (P.length : Int) ≤ 9223372036854775807 := by omega
  go_enter Try.func76, Try.ntmps76
  go_wp2_with fail
  have f0 : Fr [] w (w.alloc (Obj.cells #[Value.slice none 0 0, Value.int IntKind.i64 0] 51)) := (Fr.refl _ _).alloc _
  have b0 : (w.alloc (Obj.cells #[Value.slice none 0 0, Value.int IntKind.i64 0] 51)).heap[w.heap.size]? = some (.cells #[.slice none 0 0, .int .i64 0] 51 (0, 0)) := newA rfl
  have s0 : w.heap.size < (w.alloc (Obj.cells #[Value.slice none 0 0, Value.int IntKind.i64 0] 51)).heap.size := by simp
  generalize (w.alloc (Obj.cells #[Value.slice none 0 0, Value.int IntKind.i64 0] 51)) = W at *
  generalize hB : w.heap.size = B at *
  have hBl : w.heap.size ≤ B := by omega
  clear hB
  go_loopw [4, 9] (fun v i wr => ∃ (k : Nat) (vs : List Value), k ≤ P.length ∧ i = .int .i64 k ∧ Gat wr W.heap.size v vs (gath P k) ∧ wr.heap[B]? = some (.cells #[.slice none 0 0, .int .i64 0] 51 (0, 0)) ∧ Fr [] w wr ∧ W.heap.size ≤ wr.heap.size) (fun _ i _ => P.length - (intOf i).toNat)
  case atStart => exact ⟨0, [], by omega, rfl, Gat.nil _ _, b0, f0, Nat.le_refl _⟩
  case round =>
    obtain ⟨k, vs, hk, rfl, gt, q0, g, hW⟩ := hrel
    clear b0 f0
    by_cases hlt : (k : Int) < P.length
    · have hlt' : k < P.length := by omega
      obtain ⟨b, o, ak, ck, rfl, hbl, hcell, hc1, hc2, hsl, _⟩ := (h.keep g (by simp)).at_ hlt'
      have hgs := Lib.hid (gath_succ hlt')
      have hsl2 : Sl wr ak (bi (P[k].take 65537)) := by rw [bi_take]; exact hsl.take _
      have hpk : (P[k].take 65537).length = min 65537 P[k].length := by simp
      have hxm : (P[k].length : Int) ≤ 9223372036854775807 := by unfold maxLen at hc2; omega
      have hxc : (P[k].length : Int) ≤ ck := by omega
      obtain ⟨ga, gc, rfl, _, _, _⟩ := gt.parts
      have hone := gt.one
      have hvl := gt.2.1
      generalize P[k].length = x at *
      generalize hq : P[k].take 65537 = q at *
      have hgl := gath_len P k
      generalize hG : gath P k = G at *
      clear hq hG hsl
      by_cases h0 : x = 0
      · subst h0
        have hgs' : gath P (k + 1) = G := by rw [hgs.out, if_neg (by omega)]
        have HGS := Lib.hid hgs'
        clear hgs hgs' hpk
        go_wp2_with fail
        go_roundw
        case rel => exact ⟨k + 1, vs, by omega, by go_num, by rw [HGS.out]; exact gt, q0, g, hW⟩
        case measure => simp [intOf]; omega
      by_cases h2 : (1024 : Int) < List.length G
      · have hgs' : gath P (k + 1) = G := by rw [hgs.out, if_neg (by omega)]
        have HGS := Lib.hid hgs'
        clear hgs hgs' hpk
        by_cases h1 : (65536 : Int) < x
        all_goals
          go_wp2_with fail
          go_roundw
          case rel => exact ⟨k + 1, vs, by omega, by go_num, by rw [HGS.out]; exact gt, q0, g, hW⟩
          case measure => simp [intOf]; omega
      have hgs' : gath P (k + 1) = G ++ [q] := by rw [hgs.out, if_pos (by omega)]
      have HGS := Lib.hid hgs'
      have h2' : (List.length G : Int) ≤ 1024 := by omega
      have h0' : (0 : Int) < x := by omega
      clear hgs hgs' h0 h2
      obtain ⟨b1, o1, rfl, hb1, _⟩ := hsl2 (by rw [bi_length]; omega)
      have HC : Hid (∀ (L : Nat) w', L = q.length → Fr [] wr w' → Calls Try.prog 82 #[.slice (some ⟨b1, o1, none⟩) L ck] w' fun e w2 => ∃ v, e = .returned v ∧ Fr [] w' w2 ∧ Ow w2 w'.heap.size 5 v ((bi q).map (Value.int .u8))) :=
        Lib.hid fun L w' hL hf => bytes_clone (sl_keep hsl2 hf (by simp)) hL (by omega)
      have HP := Lib.hid hpk
      have HU : Hid (Try.prog.underlying 49 = some (.slice 22)) := Lib.hid Try.underlying49
      have HIN : Hid ((Try.prog.info? 22).map (fun i => (i.zero, i.size, i.bytes)) = some (some (.slice none 0 0), 1, 24)) := Lib.hid (by kernel_rfl)
      have H3 : Hid (vs.length + 1 ≤ maxLen) := Lib.hid (by unfold maxLen; omega)
      have H4 : Hid ((vs.length + 1) * 24 ≤ 140737488355328) := Lib.hid (by omega)
      clear hpk hsl2 hone hvl
      by_cases h1 : (65536 : Int) < x
      all_goals
        go_wp2_with fail
        refine (HC.out _ _ (by rw [HP.out]; omega) (Fr.refl _ _)).mono ?_
        rintro e w1 ⟨cv, rfl, f1, o1'⟩
        have gt1 := gt.keep f1 (by simp)
        have pv := PartV.of_ow o1'
        obtain ⟨ca, cc, rfl, _⟩ := pv
        have pv := PartV.of_ow o1'
        have hs1 := f1.size
        clear o1' HC
        have HG := Lib.hid (gt1.keep ((Fr.refl [] w1).alloc (.cells #[.slice ca q.length cc] 22)) (by simp)).1
        have hWs : W.heap.size ≤ (w1.alloc (.cells #[.slice ca q.length cc] 22)).heap.size := by simp; omega
        go_wp2_with (refine wpList_append_fr _ rfl (.tmp 26) (.tmp 29) 49 rfl 22 (.slice none 0 0) 24 HU.out HIN.out rfl W.heap.size (.slice ga (List.length G) gc) vs (by exact rfl) HG.out (some ⟨w1.heap.size, 0, none⟩) 1 1 [.slice ca q.length cc] (by exact rfl) rfl (SlV.box _ _ _) (one_slice _ _ _) H3.out H4.out hWs ?_)
        intro v' w3 o3 f3 hb
        have hown : ∀ k, (Value.slice ga (List.length G) gc).ownBlock = some k → B < k := fun k e => by have := (gt.1.lt k e).1; omega
        have gt3 := gt.push (f1.alloc _) f3 (by simpa using hb) o3.out ((pv.keep ((Fr.refl [] w1).alloc _) (by simp)).mono (fun x hx => ⟨hx.1, by simp; omega⟩)) hW
        have g3 : Fr [] w w3 := ((g.then0 f1).alloc _).own f3 (fun k e => .inr (by have := hown k e; omega))
        have q3 : w3.heap[B]? = some (.cells #[.slice none 0 0, .int .i64 0] 51 (0, 0)) := f3.keep (keepA (f1.keep q0 (by simp))) (fun hm => by have := hown B (by simpa using hm); omega)
        have hW3 : W.heap.size ≤ w3.heap.size := Nat.le_trans hWs f3.size
        clear o3 f3 hb hown gt1 pv HG hWs
        go_wp2_with fail
        go_roundw
        case rel => exact ⟨k + 1, _, by omega, by go_num, by rw [HGS.out]; exact gt3, q3, g3, hW3⟩
        case measure => simp [intOf]; omega
    · have hkk : k = P.length := by omega
      subst hkk
      obtain ⟨ga, gc, rfl, hgc, hgm, hpa⟩ := gt.parts
      have x0 : wr.cell? ⟨B, 0, none⟩ = some (.slice none 0 0) := cell_of q0
      have x1 : wr.cell? ⟨B, 1, none⟩ = some (.int .i64 0) := cell_of q0
      have x2 : wr.frozen? ⟨B, 0, none⟩ = false := free_of q0
      have x3 : wr.frozen? ⟨B, 1, none⟩ = false := free_of q0
      have hmany := gath_many P
      have hfl := fun h => gath_flat (P := P) h
      have hgo := fun h => gath_own (P := P) h
      have hfull := gath_full P P.length
      have hpart := gath_part P P.length
      have hgl := gath_len P P.length
      generalize gath P P.length = G at *
      have HF := Lib.hid hfl
      have HGO := Lib.hid hgo
      have HFU := Lib.hid hfull
      clear hfl hgo hfull h
      by_cases hc : 1024 < (own P).length
      · have HC := Lib.hid hc
        have hG : (1024 : Int) < List.length G := by have := hmany.2 hc; omega
        clear hmany hc
        go_wp2_with fail
        refine (of_full hG (Nat.le_trans hgc hgm)).mono ?_
        rintro e w2 ⟨rfl, f2⟩
        have q2 := f2.keep q0 (by simp)
        have y0 : w2.cell? ⟨B, 0, none⟩ = some (.slice none 0 0) := cell_of q2
        have y1 : w2.cell? ⟨B, 1, none⟩ = some (.int .i64 0) := cell_of q2
        have y2 : w2.frozen? ⟨B, 0, none⟩ = false := free_of q2
        have y3 : w2.frozen? ⟨B, 1, none⟩ = false := free_of q2
        obtain ⟨z0, z1⟩ := two_cells (u0 := .slice none 0 0) (u1 := .int .i64 0) q2
        unfold noRope
        go_wp2_with fail
        refine bodyPost_ret (v := .tuple #[noRope, .int .i64 7]) (by simp [results, Try.results76, go_sem, noRope, z0, z1]) rfl ?_
        refine ⟨((g.then0 f2).setCell (.inr (by simp; omega)) _).setCell (.inr (by simp; omega)) _, ?_⟩
        rw [if_pos HC.out]
      · have HC := Lib.hid hc
        have hG : List.length G ≤ 1024 := by rcases Nat.lt_or_ge 1024 (List.length G) with h | h; exact absurd (hmany.1 h) hc; exact h
        have hflat := HF.out (by omega)
        clear hmany hc
        have HFL := Lib.hid hflat
        clear hflat
        go_wp2_with fail
        refine (of_ok hpa rfl hpart hG).mono ?_
        rintro e w2 ⟨f2, he⟩
        have q2 := f2.keep q0 (by simp)
        have y0 : w2.cell? ⟨B, 0, none⟩ = some (.slice none 0 0) := cell_of q2
        have y1 : w2.cell? ⟨B, 1, none⟩ = some (.int .i64 0) := cell_of q2
        have y2 : w2.frozen? ⟨B, 0, none⟩ = false := free_of q2
        have y3 : w2.frozen? ⟨B, 1, none⟩ = false := free_of q2
        have hpa2 := hpa.keep f2 (by simp)
        by_cases hs : (tot G) ≤ 65536
        · rw [if_pos hs] at he
          have HS := Lib.hid hs
          subst he
          obtain ⟨z0, z1⟩ := two_cells (u0 := .slice ga (List.length G) gc) (u1 := .int .i64 ((tot G) : Nat)) q2
          clear hs
          go_wp2_with fail
          refine bodyPost_ret (v := .tuple #[.agg #[.slice ga (List.length G) gc, .int .i64 ((tot G) : Nat)], .int .i64 0]) (by simp [results, Try.results76, go_sem, z0, z1]) rfl ?_
          have fr : Fr [] w ((w2.setCell ⟨B, 0, none⟩ (.slice ga (List.length G) gc)).setCell ⟨B, 1, none⟩ (.int .i64 ((tot G) : Nat))) := ((g.then0 f2).setCell (.inr (by simp; omega)) _).setCell (.inr (by simp; omega)) _
          have hpa3 := hpa2.keep (((Fr.refl [B] w2).setCell (p := ⟨B, 0, none⟩) (.inl (by simp)) (.slice ga (List.length G) gc)).setCell (p := ⟨B, 1, none⟩) (.inl (by simp)) (.int .i64 ((tot G) : Nat))) (by simp; omega)
          refine ⟨fr, ?_⟩
          have hfp := HFL.out.1 HS.out
          have hGP := HGO.out (by have := HC.out; omega) hfp
          rw [if_neg HC.out, if_neg (by unfold tot at *; omega)]
          subst hGP
          exact ⟨_, rfl, ga, gc, rfl, hgc, hgm, hpa3.mono (fun x hx => by omega), HFU.out, hG, HS.out⟩
        · rw [if_neg hs] at he
          have HS := Lib.hid hs
          subst he
          obtain ⟨z0, z1⟩ := two_cells (u0 := .slice none 0 0) (u1 := .int .i64 0) q2
          unfold noRope
          clear hs
          go_wp2_with fail
          refine bodyPost_ret (v := .tuple #[noRope, .int .i64 5]) (by simp [results, Try.results76, go_sem, noRope, z0, z1]) rfl ?_
          refine ⟨((g.then0 f2).setCell (.inr (by simp; omega)) _).setCell (.inr (by simp; omega)) _, ?_⟩
          rw [if_neg HC.out, if_pos (by rcases Nat.lt_or_ge 65536 (tot P) with h | h; exact h; exact absurd (HFL.out.2 h) HS.out)]
end Go.Proofs.Ytodpkdbcdbdjfaa
