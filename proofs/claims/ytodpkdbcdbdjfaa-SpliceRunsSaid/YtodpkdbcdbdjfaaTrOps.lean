/-
  Package transfer: the contracts of check, put, drop, Got, Wrote, Moved, Stage, Copy.
-/
import Derived.Test.YtodpkdbcdbdjfaaTrNext
namespace Go.Proofs.Ytodpkdbcdbdjfaa
open Go.RowKit
set_option maxRecDepth 100000


theorem Wv.keep {w w' : World} {M : Nat} {v : Value} {x : WT} (h : Wv w M v x) {S : List Nat} (f : Fr S w w') (hS : ∀ y ∈ S, y < M) : Wv w' M v x := by
  obtain ⟨u, h1, h2⟩ := h
  exact ⟨u, h1, h2.keep f fun k hk hm => by have := (h2.lt k hk).1; have := hS k hm; omega⟩
theorem got_most {w : World} {M : Nat} {v : Value} {x : WT} (h : Wv w M v x) :
    Calls Try.prog 54 #[v] w fun e w' => e = .returned (.int .i64 x.n) ∧ Fr [] w w' := by
  obtain ⟨u, rfl, ou⟩ := h
  obtain ⟨ga, gc, rfl, _⟩ := ou.formB
  obtain ⟨k, s, n, l, e⟩ := x
  dsimp only
  clear ou
  generalize l.length = q
  go_enter Try.func54, Try.ntmps54
  go_wp2_with fail
  go_ret
  exact ⟨rfl, (Fr.refl _ _).alloc _⟩
theorem wrote_most {w : World} {M : Nat} {v : Value} {x : WT} (h : Wv w M v x) :
    Calls Try.prog 56 #[v] w fun e w' => e = .returned (.int .i64 (x.data.length : Nat)) ∧ Fr [] w w' := by
  obtain ⟨u, rfl, ou⟩ := h
  obtain ⟨ga, gc, rfl, _⟩ := ou.formB
  obtain ⟨k, s, n, l, e⟩ := x
  dsimp only
  clear ou
  generalize l.length = q
  go_enter Try.func56, Try.ntmps56
  go_wp2_with fail
  go_ret
  exact ⟨rfl, (Fr.refl _ _).alloc _⟩


set_option maxHeartbeats 1000000 in
theorem check_got {w : World} {N : Nat → Prop} {b : Nat} {t : TS} (h : Tr w N b t) (hr : t.rd ≤ 4611686018427387904) (kind n e : Int) :
    Calls Try.prog 53 #[.pointer (some ⟨b, 0, none⟩), .int .i64 kind, .int .i64 n, .func (.func 54) #[] #[], .int .i64 e] w fun x w' => x = .returned (.int .i64 (checkT t kind n (nextT t).n e)) ∧ Fr [] w w' := by
  have HX := Lib.hid (tr_next h hr)
  have HNO := Lib.hid (by obtain ⟨a, cap, P, h1, _, _, _, _, h4⟩ := h; exact tnone_no h1 (by have := h4.s1; rw [beq_eq_false_iff_ne]; omega))
  clear h hr
  unfold checkT
  obtain ⟨k, s, m, d, er, hx⟩ : ∃ k s m d er, nextT t = ⟨k, s, m, d, er⟩ := ⟨_, _, _, _, _, rfl⟩
  rw [hx] at HX ⊢
  clear hx
  dsimp only
  have key : ∀ (W : World) (v : Value), Fr [] w W → Wv W w.heap.size v ⟨k, s, m, d, er⟩ → Calls Try.prog 54 #[v] W fun e w' => e = .returned (.int .i64 m) ∧ Fr [] W w' := fun W v f hv => got_most hv
  have KEY := Lib.hid key
  clear key
  by_cases hk : k = kind
  · subst hk
    rw [if_neg (by simp)]
    by_cases h0 : n < 0
    · rw [if_pos (.inl h0)]
      go_enter Try.func53, Try.ntmps53
      go_wp2_with fail
      refine HNO.out.mono ?_
      rintro x w1 ⟨rfl, rfl⟩
      go_wp2_with fail
      refine HX.out.mono ?_
      rintro x w1 ⟨v, rfl, f1, hv⟩
      have hv' := hv
      obtain ⟨u, rfl, ou⟩ := hv
      obtain ⟨ga, gc, rfl, _⟩ := ou.formB
      have hv2 := hv'.keep ((Fr.refl [] w1).alloc (.cells #[.int .i64 k, .int .i64 s, .int .i64 m, .slice ga d.length gc, .int .i64 er] 32)) (by simp)
      have HK := Lib.hid (KEY.out _ _ (f1.alloc _) hv2)
      clear hv' hv2 ou
      generalize d.length = q at *
      go_wp2_with fail
      go_ret
      exact ⟨rfl, f1.alloc _⟩
    · by_cases h1 : m < n
      · rw [if_pos (.inr (.inl h1))]
        go_enter Try.func53, Try.ntmps53
        go_wp2_with fail
        refine HNO.out.mono ?_
        rintro x w1 ⟨rfl, rfl⟩
        go_wp2_with fail
        refine HX.out.mono ?_
        rintro x w1 ⟨v, rfl, f1, hv⟩
        have hv' := hv
        obtain ⟨u, rfl, ou⟩ := hv
        obtain ⟨ga, gc, rfl, _⟩ := ou.formB
        have hv2 := hv'.keep ((Fr.refl [] w1).alloc (.cells #[.int .i64 k, .int .i64 s, .int .i64 m, .slice ga d.length gc, .int .i64 er] 32)) (by simp)
        have HK := Lib.hid (KEY.out _ _ (f1.alloc _) hv2)
        clear hv' hv2 ou
        generalize d.length = q at *
        go_wp2_with fail
        refine HK.out.mono ?_
        rintro x w2 ⟨rfl, f2⟩
        go_wp2_with fail
        go_ret
        exact ⟨rfl, (f1.alloc _).then0 f2⟩
      · cases hc : codeN n e
        · have HCO := Lib.hid fun w => hc ▸ tcode w n e
          rw [if_pos (.inr (.inr rfl))]
          clear hc
          go_enter Try.func53, Try.ntmps53
          go_wp2_with fail
          refine HNO.out.mono ?_
          rintro x w1 ⟨rfl, rfl⟩
          go_wp2_with fail
          refine HX.out.mono ?_
          rintro x w1 ⟨v, rfl, f1, hv⟩
          have hv' := hv
          obtain ⟨u, rfl, ou⟩ := hv
          obtain ⟨ga, gc, rfl, _⟩ := ou.formB
          have hv2 := hv'.keep ((Fr.refl [] w1).alloc (.cells #[.int .i64 k, .int .i64 s, .int .i64 m, .slice ga d.length gc, .int .i64 er] 32)) (by simp)
          have HK := Lib.hid (KEY.out _ _ (f1.alloc _) hv2)
          clear hv' hv2 ou
          generalize d.length = q at *
          go_wp2_with fail
          refine HK.out.mono ?_
          rintro x w2 ⟨rfl, f2⟩
          go_wp2_with fail
          refine (HCO.out _).mono ?_
          rintro x w3 ⟨rfl, rfl⟩
          go_wp2_with fail
          go_ret
          exact ⟨rfl, (f1.alloc _).then0 f2⟩
        · have HCO := Lib.hid fun w => hc ▸ tcode w n e
          rw [if_neg (by simp; omega)]
          clear hc
          go_enter Try.func53, Try.ntmps53
          go_wp2_with fail
          refine HNO.out.mono ?_
          rintro x w1 ⟨rfl, rfl⟩
          go_wp2_with fail
          refine HX.out.mono ?_
          rintro x w1 ⟨v, rfl, f1, hv⟩
          have hv' := hv
          obtain ⟨u, rfl, ou⟩ := hv
          obtain ⟨ga, gc, rfl, _⟩ := ou.formB
          have hv2 := hv'.keep ((Fr.refl [] w1).alloc (.cells #[.int .i64 k, .int .i64 s, .int .i64 m, .slice ga d.length gc, .int .i64 er] 32)) (by simp)
          have HK := Lib.hid (KEY.out _ _ (f1.alloc _) hv2)
          clear hv' hv2 ou
          generalize d.length = q at *
          go_wp2_with fail
          refine HK.out.mono ?_
          rintro x w2 ⟨rfl, f2⟩
          go_wp2_with fail
          refine (HCO.out _).mono ?_
          rintro x w3 ⟨rfl, rfl⟩
          go_wp2_with fail
          go_ret
          exact ⟨rfl, (f1.alloc _).then0 f2⟩
  · have hk' : (k != kind) = true := by simpa using hk
    rw [if_pos hk]
    go_enter Try.func53, Try.ntmps53
    go_wp2_with fail
    refine HNO.out.mono ?_
    rintro x w1 ⟨rfl, rfl⟩
    go_wp2_with fail
    refine HX.out.mono ?_
    rintro x w1 ⟨v, rfl, f1, hv⟩
    have hv' := hv
    obtain ⟨u, rfl, ou⟩ := hv
    obtain ⟨ga, gc, rfl, _⟩ := ou.formB
    have hv2 := hv'.keep ((Fr.refl [] w1).alloc (.cells #[.int .i64 k, .int .i64 s, .int .i64 m, .slice ga d.length gc, .int .i64 er] 32)) (by simp)
    have HK := Lib.hid (KEY.out _ _ (f1.alloc _) hv2)
    clear hv' hv2 ou
    generalize d.length = q at *
    go_wp2_with fail
    go_ret
    exact ⟨rfl, f1.alloc _⟩


set_option maxHeartbeats 1000000 in
theorem check_wrote {w : World} {N : Nat → Prop} {b : Nat} {t : TS} (h : Tr w N b t) (hr : t.rd ≤ 4611686018427387904) (kind n e : Int) :
    Calls Try.prog 53 #[.pointer (some ⟨b, 0, none⟩), .int .i64 kind, .int .i64 n, .func (.func 56) #[] #[], .int .i64 e] w fun x w' => x = .returned (.int .i64 (checkT t kind n ((nextT t).data.length : Nat) e)) ∧ Fr [] w w' := by
  have HX := Lib.hid (tr_next h hr)
  have HNO := Lib.hid (by obtain ⟨a, cap, P, h1, _, _, _, _, h4⟩ := h; exact tnone_no h1 (by have := h4.s1; rw [beq_eq_false_iff_ne]; omega))
  clear h hr
  unfold checkT
  obtain ⟨k, s, m, d, er, hx⟩ : ∃ k s m d er, nextT t = ⟨k, s, m, d, er⟩ := ⟨_, _, _, _, _, rfl⟩
  rw [hx] at HX ⊢
  clear hx
  dsimp only
  have key : ∀ (W : World) (v : Value), Fr [] w W → Wv W w.heap.size v ⟨k, s, m, d, er⟩ → Calls Try.prog 56 #[v] W fun e w' => e = .returned (.int .i64 (d.length : Nat)) ∧ Fr [] W w' := fun W v f hv => wrote_most hv
  have KEY := Lib.hid key
  clear key
  by_cases hk : k = kind
  · subst hk
    rw [if_neg (by simp)]
    by_cases h0 : n < 0
    · rw [if_pos (.inl h0)]
      go_enter Try.func53, Try.ntmps53
      go_wp2_with fail
      refine HNO.out.mono ?_
      rintro x w1 ⟨rfl, rfl⟩
      go_wp2_with fail
      refine HX.out.mono ?_
      rintro x w1 ⟨v, rfl, f1, hv⟩
      have hv' := hv
      obtain ⟨u, rfl, ou⟩ := hv
      obtain ⟨ga, gc, rfl, _⟩ := ou.formB
      have hv2 := hv'.keep ((Fr.refl [] w1).alloc (.cells #[.int .i64 k, .int .i64 s, .int .i64 m, .slice ga d.length gc, .int .i64 er] 32)) (by simp)
      have HK := Lib.hid (KEY.out _ _ (f1.alloc _) hv2)
      clear hv' hv2 ou
      generalize d.length = q at *
      go_wp2_with fail
      go_ret
      exact ⟨rfl, f1.alloc _⟩
    · by_cases h1 : (d.length : Nat) < n
      · rw [if_pos (.inr (.inl h1))]
        go_enter Try.func53, Try.ntmps53
        go_wp2_with fail
        refine HNO.out.mono ?_
        rintro x w1 ⟨rfl, rfl⟩
        go_wp2_with fail
        refine HX.out.mono ?_
        rintro x w1 ⟨v, rfl, f1, hv⟩
        have hv' := hv
        obtain ⟨u, rfl, ou⟩ := hv
        obtain ⟨ga, gc, rfl, _⟩ := ou.formB
        have hv2 := hv'.keep ((Fr.refl [] w1).alloc (.cells #[.int .i64 k, .int .i64 s, .int .i64 m, .slice ga d.length gc, .int .i64 er] 32)) (by simp)
        have HK := Lib.hid (KEY.out _ _ (f1.alloc _) hv2)
        clear hv' hv2 ou
        generalize d.length = q at *
        go_wp2_with fail
        refine HK.out.mono ?_
        rintro x w2 ⟨rfl, f2⟩
        go_wp2_with fail
        go_ret
        exact ⟨rfl, (f1.alloc _).then0 f2⟩
      · cases hc : codeN n e
        · have HCO := Lib.hid fun w => hc ▸ tcode w n e
          rw [if_pos (.inr (.inr rfl))]
          clear hc
          go_enter Try.func53, Try.ntmps53
          go_wp2_with fail
          refine HNO.out.mono ?_
          rintro x w1 ⟨rfl, rfl⟩
          go_wp2_with fail
          refine HX.out.mono ?_
          rintro x w1 ⟨v, rfl, f1, hv⟩
          have hv' := hv
          obtain ⟨u, rfl, ou⟩ := hv
          obtain ⟨ga, gc, rfl, _⟩ := ou.formB
          have hv2 := hv'.keep ((Fr.refl [] w1).alloc (.cells #[.int .i64 k, .int .i64 s, .int .i64 m, .slice ga d.length gc, .int .i64 er] 32)) (by simp)
          have HK := Lib.hid (KEY.out _ _ (f1.alloc _) hv2)
          clear hv' hv2 ou
          generalize d.length = q at *
          go_wp2_with fail
          refine HK.out.mono ?_
          rintro x w2 ⟨rfl, f2⟩
          go_wp2_with fail
          refine (HCO.out _).mono ?_
          rintro x w3 ⟨rfl, rfl⟩
          go_wp2_with fail
          go_ret
          exact ⟨rfl, (f1.alloc _).then0 f2⟩
        · have HCO := Lib.hid fun w => hc ▸ tcode w n e
          rw [if_neg (by simp; omega)]
          clear hc
          go_enter Try.func53, Try.ntmps53
          go_wp2_with fail
          refine HNO.out.mono ?_
          rintro x w1 ⟨rfl, rfl⟩
          go_wp2_with fail
          refine HX.out.mono ?_
          rintro x w1 ⟨v, rfl, f1, hv⟩
          have hv' := hv
          obtain ⟨u, rfl, ou⟩ := hv
          obtain ⟨ga, gc, rfl, _⟩ := ou.formB
          have hv2 := hv'.keep ((Fr.refl [] w1).alloc (.cells #[.int .i64 k, .int .i64 s, .int .i64 m, .slice ga d.length gc, .int .i64 er] 32)) (by simp)
          have HK := Lib.hid (KEY.out _ _ (f1.alloc _) hv2)
          clear hv' hv2 ou
          generalize d.length = q at *
          go_wp2_with fail
          refine HK.out.mono ?_
          rintro x w2 ⟨rfl, f2⟩
          go_wp2_with fail
          refine (HCO.out _).mono ?_
          rintro x w3 ⟨rfl, rfl⟩
          go_wp2_with fail
          go_ret
          exact ⟨rfl, (f1.alloc _).then0 f2⟩
  · have hk' : (k != kind) = true := by simpa using hk
    rw [if_pos hk]
    go_enter Try.func53, Try.ntmps53
    go_wp2_with fail
    refine HNO.out.mono ?_
    rintro x w1 ⟨rfl, rfl⟩
    go_wp2_with fail
    refine HX.out.mono ?_
    rintro x w1 ⟨v, rfl, f1, hv⟩
    have hv' := hv
    obtain ⟨u, rfl, ou⟩ := hv
    obtain ⟨ga, gc, rfl, _⟩ := ou.formB
    have hv2 := hv'.keep ((Fr.refl [] w1).alloc (.cells #[.int .i64 k, .int .i64 s, .int .i64 m, .slice ga d.length gc, .int .i64 er] 32)) (by simp)
    have HK := Lib.hid (KEY.out _ _ (f1.alloc _) hv2)
    clear hv' hv2 ou
    generalize d.length = q at *
    go_wp2_with fail
    go_ret
    exact ⟨rfl, f1.alloc _⟩


theorem parts_one {w : World} {v : Value} {l : List UInt8} {B : Nat} (h : w.heap[B]? = some (.cells #[v] 22 (0, 0))) (hv : PartV w (fun _ => True) v l) : PartsAt w (fun _ => True) (some ⟨B, 0, none⟩) [l] :=
  ⟨[v], rfl, fun _ => ⟨B, 0, rfl, lt_of_heap h, fun i hi => by
    obtain rfl : i = 0 := by simp at hi; omega
    rw [cell_of h]; rfl⟩, fun _ _ _ _ => trivial, fun i p hp => by
    cases i with
    | zero => simp at hp; subst hp; exact ⟨v, rfl, hv⟩
    | succ i => simp at hp⟩
theorem own_one (l : List UInt8) : (own [l]).length ≤ 1 ∧ (own [l]).flatten = l := ⟨Nat.le_trans (List.length_filter_le _ _) (by simp), by rw [own_flat]; simp⟩
theorem tr_two {w : World} {b : Nat} {a a' : Option Addr} {len cap len' cap' : Nat} {n n' sg lm rd wr r wc : Int} (h : TrB w b a len cap n sg lm rd wr r wc) : TrB ((w.setCell ⟨b, 0, none⟩ (.slice a' len' cap')).setCell ⟨b, 1, none⟩ (.int .i64 n')) b a' len' cap' n' sg lm rd wr r wc := by
  have hb := heap_setCell_eq (i := 1) (u := .int .i64 n') (heap_setCell_eq (i := 0) (u := .slice a' len' cap') h)
  simp at hb
  exact hb
section
variable {w : World} {b : Nat} {a : Option Addr} {len cap : Nat} {n sg lm rd wr r wc : Int}
set_option maxHeartbeats 1000000 in
theorem tr_put (h : TrB w b a len cap n sg lm rd wr r wc) {pa : Option Addr} {plen pcap : Nat} {l : List UInt8} (hs : Sl w pa (bi l)) (hl : plen = l.length) (hm : l.length ≤ 65536) :
    Calls Try.prog 55 #[.pointer (some ⟨b, 0, none⟩), .slice pa plen pcap] w fun e w' => e = .returned (.tuple #[]) ∧ Fr [b] w w' ∧ ∃ a' cap' P, TrB w' b a' P.length cap' (tot P) sg lm rd wr r wc ∧ Rp w' (fun x => w.heap.size ≤ x) (.agg #[.slice a' P.length cap', .int .i64 (tot P)]) P ∧ P.flatten = l := by
  subst hl
  have hblt := lt_of_heap h
  have HSV := Lib.hid hs.toV
  have HU : Hid (Try.prog.underlying 22 = some (.slice 5)) := Lib.hid Try.underlying22
  have HIN : Hid ((Try.prog.info? 5).map (fun i => (i.zero, i.size, i.bytes)) = some (some (.int .u8 0), 1, 1)) := Lib.hid (by kernel_rfl)
  have HH := Lib.hid h
  have H1 : Hid (([] : List Value).length + l.length ≤ maxLen) := Lib.hid (by unfold maxLen; simp; omega)
  have H2 : Hid ((([] : List Value).length + l.length) * 1 ≤ 140737488355328) := Lib.hid (by simp; omega)
  have H3 : Hid (((bi l).map (Value.int .u8)).length = l.length) := Lib.hid (by simp [bi])
  have HL := Lib.hid hm
  clear hs h hm
  go_enter Try.func55, Try.ntmps55
  go_wp2_with (refine wpList_append_fr _ rfl (.const (.slice none 0 0)) (.tmp 6) 22 rfl 5 (.int .u8 0) 1 HU.out HIN.out rfl w.heap.size (.slice none 0 0) [] (by exact rfl) (Ow.nil _ _ _) pa l.length pcap _ (by exact rfl) H3.out HSV.out (oneCell_bytes _) (by exact H1.out) (by exact H2.out) (Nat.le_refl _) ?_)
  intro v' w1 o1 f1 hb
  have f1' : Fr [] w w1 := f1
  have o2 : Ow w1 w.heap.size 5 v' ((bi l).map (Value.int .u8)) := o1.out
  have pv := PartV.of_ow o2
  obtain ⟨ga, gc, rfl, _⟩ := o2.formB
  clear o1 o2 f1 hb HSV H1 H2 H3 HU HIN
  obtain ⟨W2, hW2, f2, q2⟩ : ∃ W2, W2 = w1.alloc (.cells #[.slice ga l.length gc] 22) ∧ Fr [] w1 W2 ∧ W2.heap[w1.heap.size]? = some (.cells #[.slice ga l.length gc] 22 (0, 0)) := ⟨_, rfl, (Fr.refl _ _).alloc _, newA rfl⟩
  have HN := Lib.hid (rope_new (cap := 1) (len := 1) (parts_one q2 ((pv.keep f2 (by simp)).mono (fun _ _ => trivial))) rfl (by unfold maxLen; omega))
  have g2 := f1'.then0 f2
  clear pv f1' f2 q2
  go_wp2_with fail
  rw [← hW2]
  clear hW2
  refine HN.out.mono ?_
  rintro e w3 ⟨f3, he⟩
  rw [if_neg (by have := (own_one l).1; omega), if_neg (by have := HL.out; simp [tot]; omega)] at he
  obtain ⟨v, rfl, hr⟩ := he
  have hfl := (own_one l).2
  generalize own [l] = Q at *
  obtain ⟨a', cap', rfl, hr'⟩ := id hr
  have g3 := g2.then0 f3
  have h3 := g3.keep HH.out (by simp)
  have HR := Lib.hid (hr.mono (N' := fun x => w.heap.size ≤ x) (fun x hx => Nat.le_trans g2.size hx))
  have hz3 := g3.size
  obtain ⟨_, _, _, _, _, _, _, _, _, _, _, _, _, _⟩ := TrB.cells h3
  have H3 := Lib.hid h3
  have HFL := Lib.hid hfl
  clear h3 hfl hr hr' HN g2 f3 HH
  go_wp2_with fail
  go_end0
  have fs : Fr [b] w3 ((w3.setCell ⟨b, 0, none⟩ (.slice a' Q.length cap')).setCell ⟨b, 1, none⟩ (.int .i64 (tot Q))) := ((Fr.refl _ _).setCell (.inl (by simp)) _).setCell (.inl (by simp)) _
  exact ⟨rfl, g3.trans fs (by simp) (fun _ h => .inl h), a', cap', Q, tr_two H3.out, HR.out.keep fs (fun x hx => by simp at hx; omega), HFL.out⟩
set_option maxHeartbeats 1000000 in
theorem tr_drop (h : TrB w b a len cap n sg lm rd wr r wc) {N : Nat → Prop} {P : Parts} (hr : Rp w N (.agg #[.slice a len cap, .int .i64 n]) P) (hN : ¬ N b) {m : Int} (h0 : 0 ≤ m) :
    Calls Try.prog 57 #[.pointer (some ⟨b, 0, none⟩), .int .i64 m] w fun e w' => e = .returned (.tuple #[]) ∧ Fr [b] w w' ∧ ∃ a' cap' P', TrB w' b a' P'.length cap' (tot P') sg lm rd wr r wc ∧ Rp w' (fun x => N x ∨ w.heap.size ≤ x) (.agg #[.slice a' P'.length cap', .int .i64 (tot P')]) P' ∧ P'.flatten = P.flatten.drop m.toNat := by
  have hblt := lt_of_heap h
  have HH := Lib.hid h
  have HT := Lib.hid (rope_take hr h0)
  obtain ⟨_, _, _, _, _, _, _, _, _, _, _, _, _, _⟩ := TrB.cells h
  clear h hr
  go_enter Try.func57, Try.ntmps57
  go_wp2_with fail
  refine HT.out.mono ?_
  rintro e w3 ⟨v1, v2, rfl, g3, _, hr⟩
  clear HT
  have hfl := cutR_flat P m.toNat
  generalize cutR P m.toNat = Q at *
  obtain ⟨a', cap', rfl, hr'⟩ := id hr
  have h3 := g3.keep HH.out (by simp)
  have HR := Lib.hid hr
  have hz3 := g3.size
  obtain ⟨_, _, _, _, _, _, _, _, _, _, _, _, _, _⟩ := TrB.cells h3
  have H3 := Lib.hid h3
  have HFL := Lib.hid hfl
  clear h3 hfl hr hr' HH
  go_wp2_with fail
  go_end0
  have fs : Fr [b] w3 ((w3.setCell ⟨b, 0, none⟩ (.slice a' Q.length cap')).setCell ⟨b, 1, none⟩ (.int .i64 (tot Q))) := ((Fr.refl _ _).setCell (.inl (by simp)) _).setCell (.inl (by simp)) _
  exact ⟨rfl, g3.trans fs (by simp) (fun _ h => .inl h), a', cap', Q, tr_two H3.out, HR.out.keep fs (fun x hx => by simp at hx; subst hx; rintro (hn | hn); exact hN hn; omega), HFL.out⟩
theorem tr_moved (h : TrB w b a len cap n sg lm rd wr r wc) (h1 : (sg == 0) = false) :
    Calls Try.prog 37 #[.pointer (some ⟨b, 0, none⟩)] w fun e w' => e = .returned (.tuple #[.int .i64 rd, .int .i64 wr]) ∧ Fr [] w w' := by
  have HN := Lib.hid (tnone_no h h1)
  obtain ⟨_, _, _, _, _, _, _, _, _, _, _, _, _, _⟩ := TrB.cells h
  clear h
  go_enter Try.func37, Try.ntmps37
  go_wp2_with fail
  refine HN.out.mono ?_
  rintro e w' ⟨rfl, rfl⟩
  go_wp2_with fail
  go_quiet (fail)
  go_wp2_with fail
  go_ret2
  exact ⟨rfl, (Fr.refl _ _).drewN _⟩
theorem tr_stage (h : TrB w b a len cap n sg lm rd wr r wc) (h1 : (sg == 0) = false) {N : Nat → Prop} {P : Parts} (hr : Rp w N (.agg #[.slice a len cap, .int .i64 n]) P) :
    Calls Try.prog 22 #[.pointer (some ⟨b, 0, none⟩)] w fun e w' => ∃ u, e = .returned u ∧ Fr [] w w' ∧ Ow w' w.heap.size 5 u ((bi P.flatten).map (Value.int .u8)) := by
  have HN := Lib.hid (tnone_no h h1)
  have HB := Lib.hid (rope_bytes hr)
  obtain ⟨_, _, _, _, _, _, _, _, _, _, _, _, _, _⟩ := TrB.cells h
  clear h hr
  go_enter Try.func22, Try.ntmps22
  go_wp2_with fail
  refine HN.out.mono ?_
  rintro e w' ⟨rfl, rfl⟩
  go_wp2_with fail
  refine HB.out.mono ?_
  rintro e w' ⟨u, rfl, f, ou⟩
  go_wp2_with fail
  go_ret
  exact ⟨_, rfl, f, ou⟩
theorem tr_copyB (h : TrB w b a len cap n sg lm rd wr r wc) (h1 : (sg == 0) = false) :
    Calls Try.prog 26 #[.pointer (some ⟨b, 0, none⟩)] w fun e w' => e = .returned (.pointer (some ⟨w.heap.size, 0, none⟩)) ∧ Fr [] w w' ∧ TrB w' w.heap.size a len cap n sg lm rd wr r wc ∧ w.heap.size < w'.heap.size := by
  have HN := Lib.hid (tnone_no h h1)
  have hblt := lt_of_heap h
  obtain ⟨_, _, _, _, _, _, _, _, _, _, _, _, _, _⟩ := TrB.cells h
  clear h
  go_enter Try.func26, Try.ntmps26
  go_wp2_with fail
  refine HN.out.mono ?_
  rintro e w' ⟨rfl, rfl⟩
  go_wp2_with fail
  go_ret
  exact ⟨rfl, (Fr.refl _ _).alloc _, newA rfl, by simp⟩
end

end Go.Proofs.Ytodpkdbcdbdjfaa
