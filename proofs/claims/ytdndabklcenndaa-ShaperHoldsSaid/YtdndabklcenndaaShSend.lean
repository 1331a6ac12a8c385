/-
  Package shaper: Send.
-/
import Derived.Test.YtdndabklcenndaaShSeg
import Derived.Test.YtdndabklcenndaaShRecv
import Derived.Test.YtdndabklcenndaaBClone
import Derived.Test.YtdndabklcenndaaRegionX
namespace Go.Proofs.Ytdndabklcenndaa
open Go.RowKit
set_option maxRecDepth 100000

theorem Ow.formX {w : World} {M : Nat} {e : TypeId} {v : Value} {g : List UInt8} {n : Nat} (h : Ow w M e v ((bi g).map (Value.int .u8))) (hn : n = g.length ∧ 0 < n) : ∃ b cap, v = .slice (some ⟨b, 0, none⟩) n cap ∧ n ≤ cap ∧ cap ≤ maxLen ∧ Sl w (some ⟨b, 0, none⟩) (bi g) ∧ M ≤ b := by
  obtain ⟨a, cap, hv, h1, h2, h3, h4⟩ := h.formB
  obtain ⟨g', cap', hv', _, _, _, _⟩ := h.row (by simp [bi_length]; omega)
  rw [hv] at hv'
  injection hv' with e1 e2 e3
  subst e1
  exact ⟨g', cap, by rw [hv, hn.1], by omega, h2, h3, h4 _ _ rfl⟩

theorem step_seg_append {ops : Array Oper} {o : Oper} {a : Act} {w : World} {K : Act → World → Prop} {Q : Exit → Act → World → Prop} {E : Prop} (hw : Region.wanted o (yielded ops a.tmps) = true) (s x' : Operand)
    (ho : o.op = .call { callee := .builtin .append, args := #[s, x'], argTypes := #[83, 83] }) (hty : o.type = 83)
    {L : List Nat} {b k : Nat} {v : Value} {xs : List (List UInt8 × Int)} {x : List UInt8 × Int} {B c : Nat} {u0 u1 : Value} (hs : a.eval s = v) (hx : a.eval x' = .slice (some ⟨B, 0, none⟩) 1 c)
    (h : SegRow w L b k v xs) (h0 : w.cell? ⟨B, 0, none⟩ = some u0) (h1 : w.cell? ⟨B, 1, none⟩ = some u1) (hd : ∀ g, (∃ o n c', v = .slice (some ⟨g, o, none⟩) n c') ∨ w.heap.size ≤ g → DAt w L b k g x u0 u1)
    (hpos : ∀ y ∈ xs, 0 < y.1.length) (hx0 : 0 < x.1.length) (hn : xs.length ≤ 100000) (hb : b < w.heap.size) (hk : k < w.heap.size)
    (hK : ∀ v' w' g', Hid (SegRow w' (g' :: L) b k v' (xs ++ [x])) → Hid ((g' ∈ L ∨ w.heap.size ≤ g') ∧ g' < w'.heap.size) → Hid (∃ G, Fr G w w' ∧ ∀ y ∈ G, y ∈ L ∧ y ≠ b ∧ y ≠ k) → K (a.put o.dst v') w') :
    if Region.wanted o (yielded ops a.tmps) = true then Oper.wp Try.prog o a w K Q else E := by
  rw [if_pos hw]
  obtain ⟨v', w', g', hrun, h2, h3a, h3b, h4⟩ := run_seg_append h h0 h1 hd hpos hx0 hn hb hk (c := c)
  have h3 := And.intro h3a h3b
  unfold Oper.wp execOp
  rw [← hty] at hrun
  simp only [ho, resolve, invoke, builtin, Sem.run_bind, Sem.run_pure, Result.andThen_ok, List.map_toArray, List.map_cons, List.map_nil, hs, hx, hty] at hrun ⊢
  simp only [hrun, Result.andThen_ok]
  exact hK v' w' g' h2 h3 h4

section
variable {w w' : World} {L : List Nat} {b k : Nat} {s : SH}
theorem sh_send_nil (w : World) (now : Int) (pa : Option Addr) (n pc : Nat) : Calls Try.prog 30 #[.pointer none, .int .u64 now, .slice pa n pc] w fun e w' => e = .returned (.tuple #[.int .i64 0, .int .i64 1]) ∧ w = w' := by
  go_enter Try.func30, Try.ntmps30
  go_wp2_with fail
  refine (sh_may_nil _ _ _).mono ?_
  rintro e w' ⟨rfl, rfl⟩
  go_wp2_with fail
  go_ret2
  exact ⟨rfl, rfl⟩
theorem sh_send_zero {w : World} {b : Nat} (h : w.cell? ⟨b, 0, none⟩ = some (.pointer none)) (now : Int) (pa : Option Addr) (n pc : Nat) : Calls Try.prog 30 #[.pointer (some ⟨b, 0, none⟩), .int .u64 now, .slice pa n pc] w fun e w' => e = .returned (.tuple #[.int .i64 0, .int .i64 1]) ∧ w = w' := by
  have HZ := Lib.hid (sh_may_zero h)
  clear h
  go_enter Try.func30, Try.ntmps30
  go_wp2_with fail
  refine (HZ.out _ _).mono ?_
  rintro e w' ⟨rfl, rfl⟩
  go_wp2_with fail
  go_ret2
  exact ⟨rfl, rfl⟩
theorem sh_send_bad {pa : Option Addr} {n pc : Nat} (h : Shp w L b k s) {now : Int} (hm : mayE s now (decide ((n : Int) ≤ 65536)) ≠ 0) :
    Calls Try.prog 30 #[.pointer (some ⟨b, 0, none⟩), .int .u64 now, .slice pa n pc] w fun e w' => e = .returned (.tuple #[.int .i64 0, .int .i64 (mayE s now (decide ((n : Int) ≤ 65536)))]) ∧ w = w' := by
  obtain ⟨v, hr, hs⟩ := h.ex
  have HM := Lib.hid (sh_may hr now (decide ((n : Int) ≤ 65536)))
  have hm' : (mayE s now (decide ((n : Int) ≤ 65536)) != 0) = true := by simpa using hm
  generalize mayE s now (decide ((n : Int) ≤ 65536)) = E at *
  clear hm hs hr h
  go_enter Try.func30, Try.ntmps30
  go_wp2_with fail
  refine HM.out.mono ?_
  rintro e w' ⟨rfl, rfl⟩
  go_wp2_with fail
  go_ret2
  exact ⟨rfl, rfl⟩

set_option maxHeartbeats 16000000 in
theorem sh_send_ok {pa : Option Addr} {pc : Nat} {data : List UInt8} (h : Shp w L b k s) {now : Int} (h0 : 0 ≤ now) (h1 : now ≤ 18446744073709551615) (hsl : Sl w pa (bi data)) (hpa : ∀ b' o', 0 < data.length → pa = some ⟨b', o', none⟩ → b' ∉ L) (hpc : data.length ≤ pc) (hm : mayE s now (decide ((data.length : Int) ≤ 65536)) = 0) :
    Calls Try.prog 30 #[.pointer (some ⟨b, 0, none⟩), .int .u64 now, .slice pa data.length pc] w fun e w' =>
      e = .returned (.tuple #[.int .i64 (sendNE s now data.length), .int .i64 (sendE s now data.length)]) ∧ Fr L w w' ∧ ∃ L', Shp w' L' b k (sendH s now data) ∧ ∀ y ∈ L', y ∈ L ∨ w.heap.size ≤ y := by
  obtain ⟨v, hr, hs⟩ := h.ex
  obtain ⟨c0, c1, c2, c3, c4, c5, c6⟩ := hr.cells
  have HM := Lib.hid (sh_may hr now (decide ((data.length : Int) ≤ 65536)))
  obtain ⟨m0, m1, m2⟩ := mayE_0 hm
  rw [hm, m0] at HM
  have m3 : data.length ≤ 65536 := by have := of_decide_eq_true m0; omega
  have m0 : (data.length : Int) ≤ 65536 := by omega
  have hnow : now < 18446744073709551615 := by omega
  have HEL := Lib.hid (Go.Proofs.enters_of Try.func32 (by kernel_rfl) rfl)
  have hlim := h.ok.lim1
  have htot := h.ok.tot
  have hl0 := h.ok.lim0
  have hwr : IntKind.i64.wrap (s.lim - totS s.segs) = s.lim - totS s.segs := IntWalk.i64_in _ (by omega)
  obtain ⟨n, hn⟩ : ∃ n, n = sendN s data.length := ⟨_, rfl⟩
  have hmin : (if s.lim - (totS s.segs : Int) < (data.length : Int) then s.lim - (totS s.segs : Int) else (data.length : Int)) = (n : Int) := by rw [hn]; unfold sendN; split <;> omega
  replace hmin := Lib.hid hmin
  have hnle : n ≤ data.length ∧ n ≤ s.lim.toNat - totS s.segs := by rw [hn]; unfold sendN; omega
  have HN := Lib.hid hn
  clear hn
  go_enter Try.func30, Try.ntmps30
  go_wp2_with fail
  refine HM.out.mono ?_
  rintro e w' ⟨rfl, rfl⟩
  go_wp2_with fail
  have fd : Fr [] w w.drew := (Fr.refl _ _).drew
  have HLEN := Lib.hid (sh_len (h.keep0 fd))
  have HFA := Lib.hid fun (w' : World) (f : Fr [] w w') => (show w'.cell? ⟨b, 2, none⟩ = some (.int .i64 s.lim) from cell_of (f.keep hr (by simp)))
  refine wp_region_order [(0, true), (1, true), (2, true), (3, true), (4, true), (5, true), (6, true), (7, false), (8, true), (9, true), (10, true)] (fun w' => Fr [] w w') (by kernel_rfl) (by kernel_rfl) fd ?_
  intro OPS HOPS
  have hops := HOPS.out
  try simp only [List.append_eq, List.cons_append, List.nil_append] at hops
  replace HOPS := Lib.hid hops
  clear hops
  refine walkO_take (o := _) (v := ?_) (by rw [HOPS.out]; simp only [List.getElem?_toArray, List.getElem?_cons_succ, List.getElem?_cons_zero]; exact rfl) (Or.inl ⟨rfl, ?_⟩) ?_
  rotate_left
  · (intro w hSw; have hSx := HFA.out _ hSw; (try dsimp only at hSx); clear hSw; go_simp) <;> (with_reducible rfl)
  simp only [Act.put, List.setIfInBounds_toArray, List.set_cons_zero, List.set_cons_succ]
  refine walkO_take (o := _) (v := ?_) (by rw [HOPS.out]; simp only [List.getElem?_toArray, List.getElem?_cons_succ, List.getElem?_cons_zero]; exact rfl) (Or.inl ⟨rfl, ?_⟩) ?_
  rotate_left
  · (intro w hSw; have hSx := HFA.out _ hSw; (try dsimp only at hSx); clear hSw; go_simp) <;> (with_reducible rfl)
  simp only [Act.put, List.setIfInBounds_toArray, List.set_cons_zero, List.set_cons_succ]
  refine walkO_take (o := _) (v := ?_) (by rw [HOPS.out]; simp only [List.getElem?_toArray, List.getElem?_cons_succ, List.getElem?_cons_zero]; exact rfl) (Or.inl ⟨rfl, ?_⟩) ?_
  rotate_left
  · (intro w hSw; have hSx := HFA.out _ hSw; (try dsimp only at hSx); clear hSw; go_simp) <;> (with_reducible rfl)
  simp only [Act.put, List.setIfInBounds_toArray, List.set_cons_zero, List.set_cons_succ]
  refine walkO_take (o := _) (v := ?_) (by rw [HOPS.out]; simp only [List.getElem?_toArray, List.getElem?_cons_succ, List.getElem?_cons_zero]; exact rfl) (Or.inl ⟨rfl, ?_⟩) ?_
  rotate_left
  · (intro w hSw; have hSx := HFA.out _ hSw; (try dsimp only at hSx); clear hSw; go_simp) <;> (with_reducible rfl)
  simp only [Act.put, List.setIfInBounds_toArray, List.set_cons_zero, List.set_cons_succ]
  refine walkO_take (o := _) (v := ?_) (by rw [HOPS.out]; simp only [List.getElem?_toArray, List.getElem?_cons_succ, List.getElem?_cons_zero]; exact rfl) (Or.inl ⟨rfl, ?_⟩) ?_
  rotate_left
  · (intro w hSw; have hSx := HFA.out _ hSw; (try dsimp only at hSx); clear hSw; go_simp) <;> (with_reducible rfl)
  simp only [Act.put, List.setIfInBounds_toArray, List.set_cons_zero, List.set_cons_succ]
  refine walkO_take (o := _) (v := ?_) (by rw [HOPS.out]; simp only [List.getElem?_toArray, List.getElem?_cons_succ, List.getElem?_cons_zero]; exact rfl) (Or.inl ⟨rfl, ?_⟩) ?_
  rotate_left
  · (intro w hSw; have hSx := HFA.out _ hSw; (try dsimp only at hSx); clear hSw; go_simp) <;> (with_reducible rfl)
  simp only [Act.put, List.setIfInBounds_toArray, List.set_cons_zero, List.set_cons_succ]
  refine walkO_take (o := _) (v := ?_) (by rw [HOPS.out]; simp only [List.getElem?_toArray, List.getElem?_cons_succ, List.getElem?_cons_zero]; exact rfl) (Or.inl ⟨rfl, ?_⟩) ?_
  rotate_left
  · (intro w hSw; have hSx := HFA.out _ hSw; (try dsimp only at hSx); clear hSw; go_simp) <;> (with_reducible rfl)
  simp only [Act.put, List.setIfInBounds_toArray, List.set_cons_zero, List.set_cons_succ]
  refine walkO_call (o := _) (by rw [HOPS.out]; simp only [List.getElem?_toArray, List.getElem?_cons_succ, List.getElem?_cons_zero]; exact rfl) (fun K HK => ?_)
  refine step_call rfl 32 #[(.tmp 27)] #[57] rfl HEL.out #[.pointer (some ⟨b, 0, none⟩)] (by simp [Act.eval]) (HLEN.out) ?_
  rintro e w1 ⟨rfl, f1⟩
  have g1 : Fr [] w w1 := fd.then0 f1
  refine ⟨_, rfl, ?_⟩
  refine HK.out (fun w' => Fr [] w w') _ _ (fun _ h => h) (g1) ?_
  clear HK K
  simp only [Act.put, List.setIfInBounds_toArray, List.set_cons_zero, List.set_cons_succ]
  refine walkO_take (o := _) (v := ?_) (by rw [HOPS.out]; simp only [List.getElem?_toArray, List.getElem?_cons_succ, List.getElem?_cons_zero]; exact rfl) (Or.inl ⟨rfl, ?_⟩) ?_
  rotate_left
  · (intro w hSw; have hSx := HFA.out _ hSw; (try dsimp only at hSx); clear hSw; go_simp) <;> (with_reducible rfl)
  simp only [Act.put, List.setIfInBounds_toArray, List.set_cons_zero, List.set_cons_succ]
  refine walkO_take (o := _) (v := ?_) (by rw [HOPS.out]; simp only [List.getElem?_toArray, List.getElem?_cons_succ, List.getElem?_cons_zero]; exact rfl) (Or.inl ⟨rfl, ?_⟩) ?_
  rotate_left
  · (intro w hSw; have hSx := HFA.out _ hSw; (try dsimp only at hSx); clear hSw; go_simp) <;> (with_reducible rfl)
  simp only [Act.put, List.setIfInBounds_toArray, List.set_cons_zero, List.set_cons_succ]
  refine walkO_take (o := _) (v := ?_) (by rw [HOPS.out]; simp only [List.getElem?_toArray, List.getElem?_cons_succ, List.getElem?_cons_zero]; exact rfl) (Or.inl ⟨rfl, ?_⟩) ?_
  rotate_left
  · (intro w hSw; have hSx := HFA.out _ hSw; (try dsimp only at hSx); clear hSw; go_simp) <;> (with_reducible rfl)
  simp only [Act.put, List.setIfInBounds_toArray, List.set_cons_zero, List.set_cons_succ]
  refine walkO_done ?_
  clear HOPS OPS
  rw [hmin.out]
  clear HLEN HFA HEL hwr c0 c1 c2 c3 c4 c5 c6 f1
  simp only [Exit.then]
  have hr1 := g1.keep hr (by simp)
  have hS1 := Lib.hid (h.keep0 g1)
  have f6 : w1.frozen? ⟨b, 6, none⟩ = false := free_of hr1
  obtain ⟨c0, c1, c2, c3, c4, c5, c6⟩ := ShRow.cells hr1
  have HM0 := Lib.hid hm
  obtain ⟨sa, sc, e⟩ := hs.form
  subst e
  have HSG := Lib.hid (hs.keep g1 (by simp))
  have HR1 := Lib.hid hr1
  clear hm HM hr hs hr1
  rcases hc : s.closed with _ | _
  · rw [hc] at c4
    by_cases hn0 : n = 0
    · by_cases hd0 : data.length = 0
      · have e1 : sendE s now data.length = 0 := by
          unfold sendE
          rw [if_neg (by rw [HM0.out]; decide), if_neg (by rw [hc]; decide), if_neg (by rw [← HN.out]; omega), if_neg (by rw [← HN.out]; omega)]
        have e2 : sendNE s now data.length = 0 := by unfold sendNE; rw [if_neg (by rw [e1]; decide), ← HN.out, hn0]; rfl
        have e3 : sendH s now data = { s with last := now } := by unfold sendH; rw [if_neg (by rw [e1]; decide), ← HN.out, if_pos hn0]
        have EE := Lib.hid (And.intro e1 (And.intro e2 e3))
        have HL := Lib.hid (hS1.out.setLast m1 hnow)
        have hbl := h.hb
        subst hn0
        have hd1 : ((data.length : Int) == 0) = true := by simp; exact List.eq_nil_of_length_eq_zero hd0
        have hd2 : ¬ (0 : Int) < data.length := by omega
        clear HN hmin hc e1 e2 e3 h hS1 hsl hpa
        replace hd0 := Lib.hid hd0
        go_wp2_with fail
        go_ret2
        obtain ⟨W, hW, fW⟩ : ∃ W, w1.setCell ⟨b, 6, none⟩ (.int .u64 now) = W ∧ Fr [b] w1 W := ⟨_, rfl, (Fr.refl [b] w1).setCell (.inl (by simp)) _⟩
        rw [hW] at HL ⊢
        exact ⟨(by rw [EE.out.1, EE.out.2.1]; first | done | rfl), g1.trans fW (by simp) (fun x hx => .inl (by simp at hx; subst hx; exact hbl)), L, by rw [EE.out.2.2]; exact HL.out, fun y hy => .inl hy⟩
      · have e1 : sendE s now data.length = 7 := by
          unfold sendE
          rw [if_neg (by rw [HM0.out]; decide), if_neg (by rw [hc]; decide), if_pos (by rw [← HN.out]; omega)]
        have e2 : sendNE s now data.length = 0 := by unfold sendNE; rw [if_pos (by rw [e1]; decide)]
        have e3 : sendH s now data = s := by unfold sendH; rw [if_pos (by rw [e1]; decide)]
        have EE := Lib.hid (And.intro e1 (And.intro e2 e3))
        have hd1 : (0 : Int) < data.length := by omega
        have hd2 : data ≠ [] := by intro e; rw [e] at hd0; simp at hd0
        subst hn0
        clear HN hmin hc e1 e2 e3 hd0 h hsl hpa HSG HR1 hnle
        go_wp2_with fail
        go_ret2
        exact ⟨(by rw [EE.out.1, EE.out.2.1]; first | done | rfl), g1.mono (by simp), L, by rw [EE.out.2.2]; exact hS1.out, fun y hy => .inl hy⟩
    · have hn1 : (0 : Int) < n := by omega
      have hz : ((n : Int) == 0) = false := by simp; omega
      rcases hv : roomH s now n with _ | _
      · have e1 : sendE s now data.length = 7 := by
          unfold sendE
          rw [if_neg (by rw [HM0.out]; decide), if_neg (by rw [hc]; decide), if_neg (by rw [← HN.out]; omega), if_pos (by rw [← HN.out]; exact ⟨by omega, hv⟩)]
        have e2 : sendNE s now data.length = 0 := by unfold sendNE; rw [if_pos (by rw [e1]; decide)]
        have e3 : sendH s now data = s := by unfold sendH; rw [if_pos (by rw [e1]; decide)]
        have EE := Lib.hid (And.intro e1 (And.intro e2 e3))
        have HA := Lib.hid (sh_arr_no HR1.out hS1.out.bk h.ok (n := n) (by omega) (by omega) (by have := h.ok.tl; omega) hnow hv)
        clear HN hmin hc e1 e2 e3 h hsl hpa HSG HR1 hv
        go_wp2_with fail
        refine HA.out.mono ?_
        rintro e w2 ⟨rfl, f2⟩
        have g2 := g1.then0 f2
        have hS2 := Lib.hid (hS1.out.keep0 f2)
        clear HA f2 c0 c1 c2 c3 c4 c5 c6 f6 hS1
        go_wp2_with fail
        go_ret2
        exact ⟨(by rw [EE.out.1, EE.out.2.1]; first | done | rfl), g2.mono (by simp), L, by rw [EE.out.2.2]; exact hS2.out, fun y hy => .inl hy⟩
      · have e1 : sendE s now data.length = 0 := by
          unfold sendE
          rw [if_neg (by rw [HM0.out]; decide), if_neg (by rw [hc]; decide), if_neg (by rw [← HN.out]; omega), if_neg (by rw [← HN.out, hv]; simp)]
        have e2 : sendNE s now data.length = n := by unfold sendNE; rw [if_neg (by rw [e1]; decide), ← HN.out]
        have hok := sendH_ok h.ok data h0 h1
        have e3 : sendH s now data = { s with l := lvH s now n, t := now, segs := s.segs ++ [(data.take n, atH s now n)], last := now } := by unfold sendH; rw [if_neg (by rw [e1]; decide), ← HN.out, if_neg hn0]
        rw [e3] at hok
        have EE := Lib.hid (And.intro e1 (And.intro e2 e3))
        have HA := Lib.hid (sh_arr_yes HR1.out hS1.out.bk h.ok h.ne (n := n) (by omega) (by omega) (by have := h.ok.tl; omega) h0 hnow hv)
        have HOK := Lib.hid hok
        obtain ⟨pb, po, e, hpb, _⟩ := hsl (by rw [bi_length]; omega)
        subst e
        have hpbL := hpa pb po (by omega) rfl
        have HPOS := Lib.hid h.ok.pos
        have hsz : s.segs.length ≤ 100000 := by have := totS_len _ h.ok.pos; have := h.ok.tot; have := h.ok.lim1; omega
        have hbs := h.old b h.hb
        have hks := h.old k h.hk
        have hne := h.ne
        generalize atH s now n = T at *
        generalize lvH s now n = LV at *
        have HSL := Lib.hid fun (w' : World) (f : Fr [k] w1 w') => (sl_keep (sl_keep (Sl.take hsl n) g1 (by simp)) f (fun _ b' o' e hm => by injection e with e; injection e with e1; subst e1; simp at hm; subst hm; exact hpbL h.hk))
        have HSH := Lib.hid h
        have hpc' : (n : Int) ≤ pc := by omega
        clear hmin hc e1 e2 e3 h hsl hpa hv hok
        go_wp2_with fail
        refine HA.out.mono ?_
        rintro e w2 ⟨rfl, f2, k2⟩
        have hr2 := f2.keep HR1.out (by simp; omega)
        obtain ⟨d0, d1, d2, d3, d4, d5, d6⟩ := ShRow.cells hr2
        have HR2 := Lib.hid hr2
        have HK2 := Lib.hid k2
        have HS2 := Lib.hid (HSG.out.keep f2 (by simp))
        have HEC := Lib.hid (Go.Proofs.enters_of Try.func56 (by kernel_rfl) rfl)
        have z1 := g1.size
        have z2 := f2.size
        have HL1 : Hid (n = (data.take n).length ∧ 0 < n) := Lib.hid ⟨by rw [List.length_take]; omega, by omega⟩
        have HSL2 := Lib.hid (bi_take data n ▸ HSL.out _ f2)
        clear HA c0 c1 c2 c3 c4 c5 c6 f6 hr2 k2 HSG HR1 hS1 HSL
        go_wp2_with fail
        have fd2 : Fr [] w2 w2.drew := (Fr.refl _ _).drew
        refine wp_region_till [(0, true), (1, true), (2, true), (3, true), (4, true), (5, true), (6, true), (7, true), (9, true), (8, false), (10, true), (11, false), (12, false)] [13, 14, 15] (fun w' => w'.cell? ⟨b, 3, none⟩ = some (.slice sa s.segs.length sc)) (by kernel_rfl) (by kernel_rfl) d3 ?_
        intro OPS HOPS
        have hops := HOPS.out
        try simp only [List.append_eq, List.cons_append, List.nil_append] at hops
        replace HOPS := Lib.hid hops
        clear hops
        refine walkX_take (o := _) (v := ?_) (by rw [HOPS.out]; simp only [List.getElem?_toArray, List.getElem?_cons_succ, List.getElem?_cons_zero]; exact rfl) (Or.inl ⟨rfl, ?_⟩) ?_
        rotate_left
        · (intro w hSw; (try dsimp only at hSw); go_simp) <;> (with_reducible rfl)
        simp only [Act.put, List.setIfInBounds_toArray, List.set_cons_zero, List.set_cons_succ]
        refine walkX_take (o := _) (v := ?_) (by rw [HOPS.out]; simp only [List.getElem?_toArray, List.getElem?_cons_succ, List.getElem?_cons_zero]; exact rfl) (Or.inl ⟨rfl, ?_⟩) ?_
        rotate_left
        · (intro w hSw; (try dsimp only at hSw); go_simp) <;> (with_reducible rfl)
        simp only [Act.put, List.setIfInBounds_toArray, List.set_cons_zero, List.set_cons_succ]
        refine walkX_take (o := _) (v := ?_) (by rw [HOPS.out]; simp only [List.getElem?_toArray, List.getElem?_cons_succ, List.getElem?_cons_zero]; exact rfl) (Or.inl ⟨rfl, ?_⟩) ?_
        rotate_left
        · (intro w hSw; (try dsimp only at hSw); go_simp) <;> (with_reducible rfl)
        simp only [Act.put, List.setIfInBounds_toArray, List.set_cons_zero, List.set_cons_succ]
        refine walkX_take (o := _) (v := ?_) (by rw [HOPS.out]; simp only [List.getElem?_toArray, List.getElem?_cons_succ, List.getElem?_cons_zero]; exact rfl) (Or.inl ⟨rfl, ?_⟩) ?_
        rotate_left
        · (intro w hSw; (try dsimp only at hSw); go_simp) <;> (with_reducible rfl)
        simp only [Act.put, List.setIfInBounds_toArray, List.set_cons_zero, List.set_cons_succ]
        refine walkX_take (o := _) (v := ?_) (by rw [HOPS.out]; simp only [List.getElem?_toArray, List.getElem?_cons_succ, List.getElem?_cons_zero]; exact rfl) (Or.inl ⟨rfl, ?_⟩) ?_
        rotate_left
        · (intro w hSw; (try dsimp only at hSw); go_simp) <;> (with_reducible rfl)
        simp only [Act.put, List.setIfInBounds_toArray, List.set_cons_zero, List.set_cons_succ]
        refine walkX_take (o := _) (v := ?_) (by rw [HOPS.out]; simp only [List.getElem?_toArray, List.getElem?_cons_succ, List.getElem?_cons_zero]; exact rfl) (Or.inl ⟨rfl, ?_⟩) ?_
        rotate_left
        · (intro w hSw; (try dsimp only at hSw); go_simp) <;> (with_reducible rfl)
        simp only [Act.put, List.setIfInBounds_toArray, List.set_cons_zero, List.set_cons_succ]
        refine walkX_take (o := _) (v := ?_) (by rw [HOPS.out]; simp only [List.getElem?_toArray, List.getElem?_cons_succ, List.getElem?_cons_zero]; exact rfl) (Or.inl ⟨rfl, ?_⟩) ?_
        rotate_left
        · (intro w hSw; (try dsimp only at hSw); go_simp) <;> (with_reducible rfl)
        simp only [Act.put, List.setIfInBounds_toArray, List.set_cons_zero, List.set_cons_succ]
        refine walkX_take (o := _) (v := ?_) (by rw [HOPS.out]; simp only [List.getElem?_toArray, List.getElem?_cons_succ, List.getElem?_cons_zero]; exact rfl) (Or.inl ⟨rfl, ?_⟩) ?_
        rotate_left
        · (intro w hSw; (try dsimp only at hSw); go_simp) <;> (with_reducible rfl)
        simp only [Act.put, List.setIfInBounds_toArray, List.set_cons_zero, List.set_cons_succ]
        refine walkX_take (o := _) (v := ?_) (by rw [HOPS.out]; simp only [List.getElem?_toArray, List.getElem?_cons_succ, List.getElem?_cons_zero]; exact rfl) (Or.inl ⟨rfl, ?_⟩) ?_
        rotate_left
        · (intro w hSw; (try dsimp only at hSw); go_simp) <;> (with_reducible rfl)
        simp only [Act.put, List.setIfInBounds_toArray, List.set_cons_zero, List.set_cons_succ]
        refine walkX_call (o := _) (by rw [HOPS.out]; simp only [List.getElem?_toArray, List.getElem?_cons_succ, List.getElem?_cons_zero]; exact rfl) (fun K HK => ?_)
        refine step_call rfl 56 #[(.tmp 63)] #[68] rfl HEC.out #[.slice (some ⟨pb, po, none⟩) n pc] (by simp [Act.eval]) (bytes_clone (sl_keep HSL2.out fd2 (by simp)) HL1.out.1 (by have := HL1.out.1; omega)) ?_
        rintro e w3 ⟨cv, rfl, f3, ov⟩
        have g3 : Fr [] w2 w3 := fd2.then0 f3
        obtain ⟨gb, gc, rfl, hgc, _, hgs, hgn⟩ := ov.formX HL1.out
        have HGS := Lib.hid hgs
        have hgl : gb < w3.heap.size := by
          obtain ⟨b', o', e, hb, _⟩ := hgs (by rw [bi_length]; have := HL1.out; omega)
          injection e with e; injection e with e1; omega
        clear hgs ov
        refine ⟨_, rfl, ?_⟩
        refine HK.out (fun w' => w'.cell? ⟨b, 3, none⟩ = some (.slice sa s.segs.length sc)) _ _ (fun _ h => h) (cell_of (g3.keep HR2.out (by simp))) ?_
        clear HK K
        simp only [Act.put, List.setIfInBounds_toArray, List.set_cons_zero, List.set_cons_succ]
        refine walkX_take (o := _) (v := ?_) (by rw [HOPS.out]; simp only [List.getElem?_toArray, List.getElem?_cons_succ, List.getElem?_cons_zero]; exact rfl) (Or.inl ⟨rfl, ?_⟩) ?_
        rotate_left
        · (intro w hSw; (try dsimp only at hSw); go_simp) <;> (with_reducible rfl)
        simp only [Act.put, List.setIfInBounds_toArray, List.set_cons_zero, List.set_cons_succ]
        refine walkX_call (o := _) (by rw [HOPS.out]; simp only [List.getElem?_toArray, List.getElem?_cons_succ, List.getElem?_cons_zero]; exact rfl) (fun K HK => ?_)
        go_simp
        obtain ⟨w4, hw4, f4, q4⟩ : ∃ W, (w3.alloc (.cells #[.slice (some ⟨gb, 0, none⟩) n gc, .int .u64 T] 104)) = W ∧ Fr [] w3 W ∧ W.heap[w3.heap.size]? = some (.cells #[.slice (some ⟨gb, 0, none⟩) n gc, .int .u64 T] 104 (0, 0)) := ⟨_, rfl, (Fr.refl _ _).alloc _, newA rfl⟩
        try rw [hw4]
        have g4 : Fr [] w2 w4 := g3.then0 f4
        refine HK.out (fun w' => w'.cell? ⟨b, 3, none⟩ = some (.slice sa s.segs.length sc)) _ _ (fun _ h => h) (cell_of (g4.keep HR2.out (by simp))) ?_
        clear HK K
        try simp only [Act.put, List.setIfInBounds_toArray, List.set_cons_zero, List.set_cons_succ]
        refine walkX_call (o := _) (by rw [HOPS.out]; simp only [List.getElem?_toArray, List.getElem?_cons_succ, List.getElem?_cons_zero]; exact rfl) (fun K HK => ?_)
        have z3 := f3.size
        have z4 := f4.size
        have zd : w2.drew.heap.size = w2.heap.size := rfl
        refine step_seg_append rfl (.tmp 60) (.tmp 67) rfl rfl (v := .slice sa s.segs.length sc) (x := (data.take n, T)) (u0 := .slice (some ⟨gb, 0, none⟩) n gc) (u1 := .int .u64 T) (L := gb :: L) (b := b) (k := k) (by simp [Act.eval]) (by simp [Act.eval]; try rfl) ((HS2.out.keep g4 (by simp)).mono (by intro y hy; simp [hy])) (cell_of q4) (cell_of q4) (fun g hg => ⟨⟨gb, 0, gc, by rw [← HL1.out.1], sl_keep HGS.out f4 (by simp), by simp, by omega, by omega, ?_, by rw [← HL1.out.1]; exact hgc⟩, rfl⟩) HPOS.out (by show 0 < (data.take n).length; have := HL1.out; omega) hsz (by omega) (by omega) ?_
        · rcases hg with ⟨o', n', c', e⟩ | hg
          · have h1 := HSH.out.old
            obtain ⟨G, hG⟩ : ∃ G, G ∈ L ∧ g = G := by
              rcases HS2.out with ⟨e0, _⟩ | ⟨g0, o0, cap0, cur0, e0, _, _, _, _, hL0, _⟩
              · rw [e0] at e; cases e
              · rw [e0] at e; injection e with e; injection e with e; injection e with e; exact ⟨g0, hL0, e.symm⟩
            have := h1 G hG.1; omega
          · omega
        intro v5 w5 g' hs5 hg5 hF5
        obtain ⟨a5, c5, e5⟩ := hs5.out.form
        subst e5
        have hr5 : Hid (ShRow w5 b k s (.slice sa s.segs.length sc)) := Lib.hid (by obtain ⟨G, f, hG⟩ := hF5.out; exact f.keep (g4.keep HR2.out (by simp)) (fun hm => (hG _ hm).2.1 rfl))
        refine HK.out (fun w' => w'.cell? ⟨b, 3, none⟩ = some (.slice sa s.segs.length sc)) _ _ (fun _ h => h) (cell_of hr5.out) ?_
        clear HK K
        try simp only [Act.put, List.setIfInBounds_toArray, List.set_cons_zero, List.set_cons_succ]
        refine walkX_tail ?_
        refine walkTail_step (o := _) (by rw [HOPS.out]; simp only [List.getElem?_toArray, List.getElem?_cons_succ, List.getElem?_cons_zero]; exact rfl) (fun K HK => ?_)
        go_simp
        refine HK.out _ _ ?_
        clear HK K
        try simp only [Act.put, List.setIfInBounds_toArray, List.set_cons_zero, List.set_cons_succ]
        refine walkTail_step (o := _) (by rw [HOPS.out]; simp only [List.getElem?_toArray, List.getElem?_cons_succ, List.getElem?_cons_zero]; exact rfl) (fun K HK => ?_)
        go_simp
        refine HK.out _ _ ?_
        clear HK K
        try simp only [Act.put, List.setIfInBounds_toArray, List.set_cons_zero, List.set_cons_succ]
        refine walkTail_step (o := _) (by rw [HOPS.out]; simp only [List.getElem?_toArray, List.getElem?_cons_succ, List.getElem?_cons_zero]; exact rfl) (fun K HK => ?_)
        have c5' : w5.cell? ⟨b, 3, none⟩ = some (.slice sa s.segs.length sc) := cell_of hr5.out
        have f5' : w5.frozen? ⟨b, 3, none⟩ = false := free_of hr5.out
        go_simp
        refine HK.out _ _ ?_
        clear HK K
        try simp only [Act.put, List.setIfInBounds_toArray, List.set_cons_zero, List.set_cons_succ]
        refine walkTail_done ?_
        clear HOPS OPS
        try simp only [Exit.then]
        obtain ⟨w6, hw6, f6', q6⟩ : ∃ W, w5.setCell ⟨b, 3, none⟩ (.slice a5 (s.segs.length + 1) c5) = W ∧ Fr [b] w5 W ∧ W.heap[b]? = some (.cells #[.pointer (some ⟨k, 0, none⟩), .int .u64 s.lat, .int .i64 s.lim, .slice a5 (s.segs.length + 1) c5, .bool s.closed, .int .u64 s.fin, .int .u64 s.last] 85 (0, 0)) := ⟨_, rfl, (Fr.refl [b] w5).setCell (.inl (by simp)) _, by have := heap_setCell_eq (i := 3) (u := .slice a5 (s.segs.length + 1) c5) hr5.out; simpa using this⟩
        rw [hw6]
        have f66 : w6.frozen? ⟨b, 6, none⟩ = false := free_of q6
        have c66 : w6.cell? ⟨b, 6, none⟩ = some (.int .u64 s.last) := cell_of q6
        have Q6 := Lib.hid q6
        have HFIN : Hid (Fr L w w6 ∧ BkAt w6 k s.r s.p s.u LV now ∧ SegRow w6 (g' :: gb :: L) b k (.slice a5 (s.segs.length + 1) c5) (s.segs ++ [(data.take n, T)]) ∧ (∀ y ∈ g' :: gb :: L, y < w6.heap.size) ∧ ∀ y ∈ g' :: gb :: L, y ∈ L ∨ w.heap.size ≤ y) := Lib.hid (by
          have gL4 : Fr L w w4 := ((g1.mono (T := L) (by simp)).trans f2 (fun _ h => .inl h) (fun x hx => .inl (by simp at hx; subst hx; exact HSH.out.hk))).then0 g4
          obtain ⟨G, fG, hG⟩ := hF5.out
          have gL5 : Fr L w w5 := gL4.trans fG (fun _ h => .inl h) (fun x hx => (by rcases List.mem_cons.1 (hG x hx).1 with h | h; exact .inr (by omega); exact .inl h))
          have z5 := fG.size
          have z6 := f6'.size
          refine ⟨gL5.trans f6' (fun _ h => .inl h) (fun x hx => .inl (by simp at hx; subst hx; exact HSH.out.hb)), f6'.keep (fG.keep (g4.keep HK2.out (by simp)) (fun hm => (hG _ hm).2.2 rfl)) (by simp; omega), ?_, ?_, ?_⟩
          · have h := hs5.out.keep f6' (by simp)
            rw [List.length_append, List.length_singleton] at h
            exact h
          · intro y hy
            rcases List.mem_cons.1 hy with rfl | hy
            · have := hg5.out.2; omega
            · rcases List.mem_cons.1 hy with rfl | hy
              · omega
              · have := HSH.out.old y hy; omega
          · intro y hy
            rcases List.mem_cons.1 hy with rfl | hy
            · rcases hg5.out.1 with h | h
              · rcases List.mem_cons.1 h with rfl | h
                · exact .inr (by omega)
                · exact .inl h
              · exact .inr (by omega)
            · rcases List.mem_cons.1 hy with rfl | hy
              · exact .inr (by omega)
              · exact .inl hy)
        clear hw6 q6 f6' hF5 hs5 hr5 c5' f5' hg5 hw4 f4 q4 g4 HGS g3 f3 HSL2 HS2 HK2 HR2 d0 d1 d2 d3 d4 d5 d6 f2 HEC hgl hgn z3 z4 zd fd2 fd
        go_wp2_with fail
        go_ret2
        obtain ⟨w7, hw7, f7, q7⟩ : ∃ W, w6.setCell ⟨b, 6, none⟩ (.int .u64 now) = W ∧ Fr [b] w6 W ∧ ShRow W b k { s with l := LV, t := now, segs := s.segs ++ [(data.take n, T)], last := now } (.slice a5 (s.segs.length + 1) c5) := ⟨_, rfl, (Fr.refl [b] w6).setCell (.inl (by simp)) _, by have := heap_setCell_eq (i := 6) (u := .int .u64 now) Q6.out; unfold ShRow; simpa using this⟩
        rw [hw7]
        obtain ⟨x1, x2, x3, x4, x5⟩ := HFIN.out
        refine ⟨(by rw [EE.out.1, EE.out.2.1]; first | done | rfl), x1.trans f7 (fun _ h => .inl h) (fun x hx => .inl (by simp at hx; subst hx; exact HSH.out.hb)), g' :: gb :: L, ?_, x5⟩
        rw [EE.out.2.2]
        exact ⟨⟨_, q7, x3.keep f7 (by simp)⟩, f7.keep x2 (by simp; omega), HOK.out, by simp [HSH.out.hb], by simp [HSH.out.hk], hne, fun y hy => Nat.lt_of_lt_of_le (x4 y hy) f7.size⟩
  · rw [hc] at c4
    have e1 : sendE s now data.length = 14 := by
      unfold sendE
      rw [if_neg (by rw [HM0.out]; decide), if_pos hc]
    have e2 : sendNE s now data.length = 0 := by unfold sendNE; rw [if_pos (by rw [e1]; decide)]
    have e3 : sendH s now data = s := by unfold sendH; rw [if_pos (by rw [e1]; decide)]
    have EE := Lib.hid (And.intro e1 (And.intro e2 e3))
    clear HN hmin hc e1 e2 e3 h hsl hpa HSG HR1 hnle
    go_wp2_with fail
    go_ret2
    exact ⟨(by rw [EE.out.1, EE.out.2.1]; first | done | rfl), g1.mono (by simp), L, by rw [EE.out.2.2]; exact hS1.out, fun y hy => .inl hy⟩

theorem sh_send {pa : Option Addr} {pc : Nat} {data : List UInt8} (h : Shp w L b k s) {now : Int} (h0 : 0 ≤ now) (h1 : now ≤ 18446744073709551615) (hsl : Sl w pa (bi data)) (hpa : ∀ b' o', 0 < data.length → pa = some ⟨b', o', none⟩ → b' ∉ L) (hml : data.length ≤ 100000) (hpc : data.length ≤ pc) :
    Calls Try.prog 30 #[.pointer (some ⟨b, 0, none⟩), .int .u64 now, .slice pa data.length pc] w fun e w' =>
      e = .returned (.tuple #[.int .i64 (sendNE s now data.length), .int .i64 (sendE s now data.length)]) ∧ Fr L w w' ∧ ∃ L', Shp w' L' b k (sendH s now data) ∧ ∀ y ∈ L', y ∈ L ∨ w.heap.size ≤ y := by
  by_cases hm : mayE s now (decide ((data.length : Int) ≤ 65536)) = 0
  · exact sh_send_ok h h0 h1 hsl hpa hpc hm
  · have e1 : sendE s now data.length = mayE s now (decide ((data.length : Int) ≤ 65536)) := by unfold sendE; rw [if_pos hm]
    have e2 : sendNE s now data.length = 0 := by unfold sendNE; rw [if_pos (by rw [e1]; exact hm)]
    have e3 : sendH s now data = s := by unfold sendH; rw [if_pos (by rw [e1]; exact hm)]
    rw [e1, e2, e3]
    exact (sh_send_bad h hm).mono fun e w' ⟨he, hw⟩ => ⟨he, by subst hw; exact Fr.refl _ _, L, by subst hw; exact h, fun y hy => .inl hy⟩
end
end Go.Proofs.Ytdndabklcenndaa
