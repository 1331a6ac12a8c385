/-
  RingHolds: what is read is what was written, in the same order.
-/
import Derived.Test.YtpkgjgfdobcboaaRingKnown
import Derived.Test.YtpkgjgfdobcboaaSteps
import Derived.Deep.RegionHeld3
import Derived.Shelf.Abstract
namespace Go.Proofs.Ytpkgjgfdobcboaa
open Go.RowKit
set_option maxRecDepth 100000

/-- Between two rounds: at bytes are written, g of them read, q is in the buffer. -/
structure RH (w w0 wr : World) (M c : Nat) (l g q : List UInt8) (at_ : Nat) (v : Value) : Prop where
  at_le : at_ ≤ l.length
  text : l.take at_ = g ++ q
  own : Ow wr w0.heap.size 5 v ((bi g).map (Value.int .u8))
  ring : Rg wr (M + 1) M c (bi q)
  fr : Fr [] w wr
  size : w0.heap.size ≤ wr.heap.size

theorem RH.len {w w0 wr : World} {M c : Nat} {l g q : List UInt8} {at_ : Nat} {v : Value} (h : RH w w0 wr M c l g q at_ v) : at_ = g.length + q.length ∧ q.length ≤ c ∧ g.length ≤ l.length := by
  have h1 := congrArg List.length h.text
  have h2 := h.ring.len_le.1
  have h3 := h.at_le
  rw [bi_length] at h2
  simp only [List.length_take, List.length_append] at h1
  omega

theorem RH.wrote {w w0 wr w' : World} {M c : Nat} {l g q : List UInt8} {at_ : Nat} {v : Value} (h : RH w w0 wr M c l g q at_ v) (hb : M + 1 < w0.heap.size) (hM : w.heap.size ≤ M) {k : Nat} (hk : at_ + k ≤ l.length)
    (f : Fr [M + 1, M] wr w') (r : Rg w' (M + 1) M c (bi q ++ bi ((l.drop at_).take k))) : RH w w0 w' M c l g (q ++ (l.drop at_).take k) (at_ + k) v :=
  ⟨hk, by rw [List.take_add, h.text, List.append_assoc], h.own.keep f (fun b e => by have := (h.own.lt b e).1; simp; omega), by rw [bi_append]; exact r, h.fr.trans f (fun _ h => .inl h) (by simp; omega), Nat.le_trans h.size f.size⟩

theorem RH.got {w w0 wr w1 w2 : World} {M c : Nat} {l g q : List UInt8} {at_ : Nat} {v v' : Value} (h : RH w w0 wr M c l g q at_ v) (hb : M + 1 < w0.heap.size) (hM : w.heap.size ≤ M) {n : Nat}
    (f : Fr [M + 1, M] wr w1) (r : Rg w1 (M + 1) M c (bi (q.drop n))) (o : Ow w2 w0.heap.size 5 v' ((bi g).map (Value.int .u8) ++ (bi (q.take n)).map (Value.int .u8))) (f2 : Fr v.ownBlock.toList w1 w2) :
    RH w w0 w2 M c l (g ++ q.take n) (q.drop n) at_ v' := by
  have hv : ∀ k ∈ v.ownBlock.toList, w0.heap.size ≤ k := fun k hk => (h.own.lt k (by simpa using hk)).1
  have hw := h.fr.size
  have hs := h.size
  refine ⟨h.at_le, by rw [h.text, List.append_assoc, List.take_append_drop], by rw [bi_append, List.map_append]; exact o, r.keep f2 (fun hm => by have := hv _ hm; omega) (fun hm => by have := hv _ hm; omega), ?_, Nat.le_trans h.size (Nat.le_trans f.size f2.size)⟩
  exact (h.fr.trans f (fun _ h => .inl h) (by simp; omega)).trans f2 (fun _ h => .inl h) (fun k hk => .inr (by have := hv k hk; omega))

theorem run_upto {pa : Option Addr} {plen pcap h : Nat} (hh : h ≤ plen) (hc : plen ≤ pcap) (w : World) :
    (Instr.slice 29 (.slice pa plen pcap) none (some (.int .i64 h)) none).run Try.prog w = .ok (.slice pa h pcap) w := by
  have hs : ∀ w, (sizeOf (Try.prog.elem 29)).run Try.prog w = .ok 1 w := fun _ => by kernel_rfl
  rw [run_slice_h (P := Try.prog) (w := w) (t := 29) (a := pa) (len := plen) (cap := pcap) (by kernel_rfl) .i64 (h : Int) (by omega) (by omega), hs]
  simp [Result.andThen, sliced]
  intro _
  cases pa <;> simp [Addr.add]
theorem Ow.formB2 {w : World} {M : Nat} {e : TypeId} {v : Value} {g q : List UInt8} (h : Ow w M e v ((bi g).map (Value.int .u8) ++ (bi q).map (Value.int .u8))) : ∃ a cap, v = .slice a (g.length + q.length) cap ∧ g.length + q.length ≤ cap ∧ cap ≤ maxLen ∧ Sl w a (bi (g ++ q)) ∧ (∀ b o, a = some ⟨b, o, none⟩ → M ≤ b) := by
  rw [← List.map_append, ← bi_append] at h
  rw [← List.length_append]
  exact h.formB
theorem Sl.keep0 {w w' : World} {a : Option Addr} {bs : List Int} (h : Sl w a bs) (hf : Fr [] w w') : Sl w' a bs := sl_keep h hf (by simp)
set_option maxHeartbeats 800000 in
theorem ringHolds_main {pa pb : Option Addr} {pl pc pm pd : Nat} {l ns : List UInt8} (c : Nat) (w : World) (hp : Arg w w.heap.size pa pl pc l) (hn : Arg w w.heap.size pb pm pd ns) (h1 : 1 ≤ c) (h2 : c ≤ 4096) (h3 : pl ≤ 2000) (h4 : pm ≤ 200) :
    Calls Try.prog 5 #[.int .i64 c, .slice pa pl pc, .slice pb pm pd] w fun e w' => e = .returned (.bool true) ∧ Fr [] w w' := by
  have HN := rg_new c w h1 h2
  have hle := hp.len_eq
  subst hle
  have hle := hn.len_eq
  subst hle
  have i1 : (l.length : Int) ≤ 2000 := by omega
  have i2 : (ns.length : Int) ≤ 200 := by omega
  go_enter Try.func5, Try.ntmps5
  go_wp2_with fail
  refine HN.mono ?_
  rintro e w1 ⟨rfl, f1, q1⟩
  clear HN
  obtain ⟨_, _, _, _, hR, hD⟩ := q1.len_le
  have p1 := hp.keep f1 (Nat.le_refl _) (by simp)
  have n1 := hn.keep f1 (Nat.le_refl _) (by simp)
  generalize hM0 : w.heap.size = M at *
  have hM0' : M ≤ w.heap.size := by omega
  have hM0'' : w.heap.size ≤ M := by omega
  clear hM0
  have r0 : RH w w1 w1 M c l [] [] 0 (.slice none 0 0) := ⟨by omega, rfl, Ow.nil _ _ _, q1, f1, Nat.le_refl _⟩
  go_wp2_with fail
  go_loopw [9, 10, 49] (fun v t i wr => ∃ (k at_ : Nat) (g q : List UInt8), k ≤ ns.length ∧ i = .int .i64 k ∧ t = .int .i64 at_ ∧ RH w w1 wr M c l g q at_ v ∧ Arg wr M pa l.length pc l ∧ Arg wr M pb ns.length pd ns) (fun _ _ i _ => ns.length - (intOf i).toNat)
  case atStart => exact ⟨0, 0, [], [], by omega, rfl, rfl, r0, p1, n1⟩
  case round =>
    obtain ⟨k, at_, g, q, hk, rfl, rfl, rr, pr, nr⟩ := hrel
    clear r0 p1 n1 q1 hp hn
    by_cases hlt : (k : Int) < ns.length
    · have hkn : k < ns.length := by omega
      obtain ⟨nb, no, rfl, hnb, hnc⟩ := nr.sl (by rw [bi_length]; omega)
      have hcell := hnc k (by rw [bi_length]; omega)
      have hnb' := nr.old nb no (by omega) rfl
      rw [bi_getD ns k hkn] at hcell
      have hn255 : ns[k].toNat ≤ 255 := by have := ns[k].toNat_lt; omega
      generalize ns[k].toNat = n at hcell hn255
      obtain ⟨hl1, hl2, hl3⟩ := rr.len
      have HL1 := Lib.hid hl1
      have hl4 : g.length + q.length ≤ l.length := by have := rr.at_le; omega
      have hl5 : at_ ≤ l.length := rr.at_le
      clear hl1 hnc
      have pl := pr.le
      have hw1 := rr.fr.size
      have hsz := rr.size
      by_cases hev : k % 2 = 0
      · have hev1 : ((k : Int) % 2 == 0) = true := by rw [beq_iff_eq]; omega
        clear hev
        have hcase : ∃ (hi : Int) (k' : Nat), ((l.length : Int) ≤ at_ + n ∧ hi = l.length ∧ k' = l.length - at_) ∨ ((at_ : Int) + n < l.length ∧ hi = (at_ : Int) + n ∧ k' = n) := by
          by_cases h : (l.length : Int) ≤ at_ + n
          · exact ⟨_, _, .inl ⟨h, rfl, rfl⟩⟩
          · exact ⟨_, _, .inr ⟨by omega, rfl, rfl⟩⟩
        obtain ⟨hi, k', hcase⟩ := hcase
        have hs1 : ∀ w, (Instr.slice 29 (.slice pa l.length pc) (some (.int .i64 at_)) (some (.int .i64 hi)) none).run Try.prog w = .ok (.slice (cutp pa pc at_) k' (pc - at_)) w := fun w => by
          have := run_cutp (pa := pa) (plen := l.length) (pcap := pc) (l := at_) (h := at_ + k') (by omega) (by omega) w
          rw [show ((at_ + k' : Nat) : Int) = hi from by omega, show at_ + k' - at_ = k' from by omega] at this
          exact this
        have hk1 : k' ≤ n := by omega
        have hk2 : at_ + k' ≤ l.length := by omega
        have hA := pr.cut (lo := at_) (k := k') hk2
        have HW := Lib.hid (rg_write rr.ring (hA.len_eq.trans (bi_length _).symm) hA.le hA.sl (fun h0 b o e => by rw [bi_length, ← hA.len_eq] at h0; have := hA.old b o h0 e; omega) (by omega))
        clear hA
        obtain ⟨m, hm⟩ : ∃ m : Nat, m = min k' (c - q.length) := ⟨_, rfl⟩
        rw [bi_length, ← hm] at HW
        have hm1 : m ≤ k' := by omega
        have hm2 : q.length + m ≤ c := by omega
        clear hm
        have hb0 : (m : Int) ≤ n := by omega
        have hb3 : (m : Int) ≤ (l.length : Int) - at_ := by omega
        have htk : ((bi ((l.drop at_).take k')).take m) = bi ((l.drop at_).take m) := by rw [← bi_take, List.take_take, Nat.min_eq_left hm1]
        rw [htk] at HW
        have HR := Lib.hid fun w' (f : Fr [M + 1, M] wr w') (r : Rg w' (M + 1) M c (bi q ++ bi ((l.drop at_).take m))) => rr.wrote hR hM0'' (k := m) (by omega) f r
        have hlq : (q ++ (l.drop at_).take m).length = q.length + m := by simp; omega
        generalize q ++ (l.drop at_).take m = q' at HR hlq
        have HLQ := Lib.hid hlq
        have HRR := Lib.hid rr
        clear htk hlq rr hm1
        have hmin : (l.length : Int) - at_ < n ∨ (n : Int) ≤ (l.length : Int) - at_ := by omega
        have hck1 : (((q.length + m : Nat) : Int) + ((c : Int) - ((q.length + m : Nat) : Int)) != c) = false := by rw [bne_eq_false_iff_eq]; omega
        have hck2 : (((q.length + m : Nat) : Int) != ((at_ : Int) + m - g.length)) = false := by rw [bne_eq_false_iff_eq]; have := HL1.out; omega
        obtain ⟨ga, gc, rfl, hgc, hgm, hgs, hgb⟩ := HRR.out.own.formB
        clear hgb hgs hgm
        rcases hcase with ⟨hc1, rfl, hc3⟩ | ⟨hc1, rfl, hc3⟩ <;> rcases hmin with hd2 | hd2 <;> first | (exfalso; omega) | skip
        all_goals
          clear hc3
          go_wp2_with fail
          refine HW.out.mono ?_
          rintro e w2 ⟨rfl, f2, r2⟩
          have rr2 := HR.out _ f2 r2
          have p2 := pr.keep f2 (by omega) (by simp)
          have n2 := nr.keep f2 (by omega) (by simp)
          clear HW HR
          have hlen2 := rg_len rr2.ring
          have hfree2 := rg_free rr2.ring
          rw [bi_length, HLQ.out] at hlen2 hfree2
          have HL2 := Lib.hid hlen2
          have HF2 := Lib.hid hfree2
          clear hlen2 hfree2
          go_wp2_with fail
          refine HL2.out.mono ?_
          rintro e w' ⟨rfl, rfl⟩
          go_wp2_with fail
          refine HF2.out.mono ?_
          rintro e w' ⟨rfl, rfl⟩
          go_wp2_with fail
          refine (rg_cap rr2.ring).mono ?_
          rintro e w' ⟨rfl, rfl⟩
          go_wp2_with fail
          refine HL2.out.mono ?_
          rintro e w' ⟨rfl, rfl⟩
          go_wp2_with fail
          go_roundw
          case rel => exact ⟨k + 1, at_ + m, g, q', by omega, by go_num, by go_num, rr2, p2, n2⟩
          case measure => simp [intOf]; omega
      · have hev1 : ((k : Int) % 2 == 0) = false := by rw [beq_eq_false_iff_ne]; omega
        clear hev
        have HRD := Lib.hid (rg_read rr.ring (most := n) (by omega))
        have hq1 : (bi q).take (n : Int).toNat = bi (q.take n) := by rw [Int.toNat_natCast, bi_take]
        have hq2 : (bi q).drop (n : Int).toNat = bi (q.drop n) := by rw [Int.toNat_natCast, bi_drop]
        rw [hq1, hq2] at HRD
        clear hq1 hq2
        obtain ⟨ga, gc, rfl, hgc, hgm, hgs, hgb⟩ := rr.own.formB
        clear hgb hgs hgm
        go_wp2_with fail
        refine HRD.out.mono ?_
        rintro e w2 ⟨v, rfl, f2, hv, r2⟩
        clear HRD
        have p2 := pr.keep f2 (by omega) (by simp)
        have n2 := nr.keep f2 (by omega) (by simp)
        obtain ⟨va, vc, rfl, hvc, hvs, hvb⟩ := hv.formB
        have own2 : Ow w2 w1.heap.size 5 (.slice ga g.length gc) ((bi g).map (Value.int .u8)) := rr.own.keep f2 (fun b e => by have := (rr.own.lt b e).1; simp; omega)
        have hs2 : w1.heap.size ≤ w2.heap.size := Nat.le_trans rr.size f2.size
        have HG := Lib.hid fun v' w3 o (f : Fr (Value.slice ga g.length gc).ownBlock.toList w2 w3) => rr.got hR hM0'' (v' := v') f2 r2 o f
        have hold : ∀ k ∈ (Value.slice ga g.length gc).ownBlock.toList, M ≤ k := fun k hk => by have := (own2.lt k (by simpa using hk)).1; omega
        have HOLD := Lib.hid hold
        have hqt : (q.take n).length ≤ n := by simp; omega
        have hqt2 : (q.take n).length + g.length ≤ 2000 := by simp; omega
        have hqt3 : (q.take n).length + (q.drop n).length = q.length := by simp; omega
        have hlq : (g ++ q.take n).length = g.length + (q.take n).length := by simp
        clear hv hvb hold
        generalize q.take n = qa at *
        generalize q.drop n = qb at *
        have HLQ := Lib.hid hlq
        have HQ3 := Lib.hid hqt3
        have hqn : (qa.length : Int) ≤ n := by omega
        have hM2 : M ≤ w2.heap.size := by have := f2.size; omega
        have hi3 : ((bi g).map (Value.int .u8)).length + qa.length ≤ maxLen := by simp [bi_length]; unfold maxLen; omega
        have hi4 : (((bi g).map (Value.int .u8)).length + qa.length) * 1 ≤ 140737488355328 := by simp [bi_length]; omega
        have hi5 : ((bi qa).map (Value.int .u8)).length = qa.length := by simp [bi_length]
        have HI3 := Lib.hid hi3
        have HI4 := Lib.hid hi4
        have HI5 := Lib.hid hi5
        have HU : Hid (Try.prog.underlying 29 = some (.slice 5)) := Lib.hid Try.underlying29
        have HIN : Hid ((Try.prog.info? 5).map (fun i => (i.zero, i.size, i.bytes)) = some (some (.int .u8 0), 1, 1)) := Lib.hid (by kernel_rfl)
        have HONE : Hid (∀ u ∈ (bi qa).map (Value.int .u8), u.oneCell' = true) := Lib.hid (bytes_one _)
        have HSV := Lib.hid hvs.toV
        have HOW := Lib.hid own2
        clear hi3 hi4 hi5 hqt3 hlq hvs own2 r2 rr
        go_wp2_with (refine wpList_append_fr _ rfl (.tmp 108) (.tmp 109) 29 rfl 5 (.int .u8 0) 1 HU.out HIN.out rfl w1.heap.size (.slice ga g.length gc) ((bi g).map (Value.int .u8)) (by exact rfl) HOW.out va qa.length vc ((bi qa).map (Value.int .u8)) (by exact rfl) HI5.out HSV.out HONE.out HI3.out HI4.out hs2 ?_)
        intro v3 w3 own3 f3 _
        have rr3 := HG.out _ _ own3.out f3
        have hf3 : ∀ k ∈ (Value.slice ga g.length gc).ownBlock.toList, M ≤ k := HOLD.out
        have p3 := p2.keep f3 hM2 hf3
        have n3 := n2.keep f3 hM2 hf3
        obtain ⟨a3, c3, rfl, _, _, _, _⟩ := Ow.formB2 own3.out
        have hlen3 := rg_len rr3.ring
        have hfree3 := rg_free rr3.ring
        rw [bi_length] at hlen3 hfree3
        have HL2 := Lib.hid hlen3
        have HF2 := Lib.hid hfree3
        have hck1 : ((qb.length : Int) + ((c : Int) - (qb.length : Int)) != c) = false := by rw [bne_eq_false_iff_eq]; omega
        have hck2 : ((qb.length : Int) != ((at_ : Int) - ((g.length : Int) + (qa.length : Int)))) = false := by rw [bne_eq_false_iff_eq]; have := HL1.out; have := HQ3.out; omega
        have hqb : qb.length ≤ c := by have := rr3.ring.len_le.1; rwa [bi_length] at this
        clear hlen3 hfree3 hf3 HG HOLD
        go_wp2_with fail
        refine HL2.out.mono ?_
        rintro e w' ⟨rfl, rfl⟩
        go_wp2_with fail
        refine HF2.out.mono ?_
        rintro e w' ⟨rfl, rfl⟩
        go_wp2_with fail
        refine (rg_cap rr3.ring).mono ?_
        rintro e w' ⟨rfl, rfl⟩
        go_wp2_with fail
        refine HL2.out.mono ?_
        rintro e w' ⟨rfl, rfl⟩
        go_wp2_with fail
        go_roundw
        case rel => exact ⟨k + 1, at_, g ++ qa, qb, by omega, by go_num, rfl, rr3, p3, n3⟩
        case measure => simp [intOf]; omega
    · have hge : (ns.length : Int) ≤ k := by omega
      clear hlt
      obtain ⟨hl1, hl2, hl3⟩ := rr.len
      have HL1 := Lib.hid hl1
      have hl4 : g.length + q.length ≤ l.length := by have := rr.at_le; omega
      have hl5 : at_ ≤ l.length := rr.at_le
      clear hl1
      obtain ⟨ga, gc, rfl, hgc, hgm, hgs, hgb⟩ := rr.own.formB
      go_wp2_with fail
      refine (rg_read rr.ring (most := c) (by omega)).mono ?_
      rintro e w2 ⟨v, rfl, f2, hv, r2⟩
      have e1 : (bi q).take (c : Int).toNat = bi q := List.take_of_length_le (by rw [bi_length, Int.toNat_natCast]; omega)
      have e2 : (bi q).drop (c : Int).toNat = bi [] := List.drop_eq_nil_of_le (by rw [bi_length, Int.toNat_natCast]; omega)
      rw [e1] at hv
      rw [e2] at r2
      clear e1 e2
      obtain ⟨va, vc, rfl, hvc, hvs, hvb⟩ := hv.formB
      have pr2 := pr.keep f2 (by have := rr.fr.size; omega) (by simp)
      have own2 : Ow w2 w1.heap.size 5 (.slice ga g.length gc) ((bi g).map (Value.int .u8)) := rr.own.keep f2 (fun b e => by have := (rr.own.lt b e).1; simp; omega)
      have g2 : Fr [] w w2 := rr.fr.trans f2 (fun _ h => .inl h) (by simp; omega)
      have hs2 : w1.heap.size ≤ w2.heap.size := Nat.le_trans rr.size f2.size
      have pl2 := pr2.le
      have htx : (g ++ q == l.take at_) = true := by rw [rr.text]; simp
      have sat : Sl w2 pa (bi (l.take at_)) := by rw [bi_take]; exact pr2.sl.take at_
      have hcp : ∀ wx, Sl wx pa (bi (l.take at_)) → ∀ cap, (convert 29 9 (.slice pa at_ cap)).run Try.prog wx = .ok (.string (st (l.take at_))) wx := fun wx h cap => conv_st h (by simp; omega)
      have hcg : ∀ wx a3 c3, Sl wx a3 (bi (g ++ q)) → (convert 29 9 (.slice a3 (g.length + q.length) c3)).run Try.prog wx = .ok (.string (st (g ++ q))) wx := fun wx a3 c3 h => conv_st h (by simp)
      have hcp2 := hcp w2.drew sat
      have HCP := Lib.hid hcp
      have HCG := Lib.hid hcg
      have HPA : Hid (∀ b o, 0 < l.length → pa = some ⟨b, o, none⟩ → b < M) := Lib.hid pr2.old
      have HLEN : Hid (∀ wx, Rg wx (M + 1) M c (bi []) → Calls Try.prog 26 #[.pointer (some ⟨M + 1, 0, none⟩)] wx fun e w' => e = .returned (.int .i64 0) ∧ wx = w') := Lib.hid fun wx h => rg_len h
      have i3 : ((bi g).map (Value.int .u8)).length + q.length ≤ maxLen := by simp [bi_length]; unfold maxLen; omega
      have i4 : (((bi g).map (Value.int .u8)).length + q.length) * 1 ≤ 140737488355328 := by simp [bi_length]; omega
      have hqv := hvs.toV
      have i5 : ((bi q).map (Value.int .u8)).length = q.length := by simp [bi_length]
      have HI3 := Lib.hid i3
      have HI4 := Lib.hid i4
      have HI5 := Lib.hid i5
      have HQV := Lib.hid hqv
      have HU : Hid (Try.prog.underlying 29 = some (.slice 5)) := Lib.hid Try.underlying29
      have HIN : Hid ((Try.prog.info? 5).map (fun i => (i.zero, i.size, i.bytes)) = some (some (.int .u8 0), 1, 1)) := Lib.hid (by kernel_rfl)
      have HONE : Hid (∀ u ∈ (bi q).map (Value.int .u8), u.oneCell' = true) := Lib.hid (bytes_one _)
      have HOB : Hid (∀ k ∈ (Value.slice ga g.length gc).ownBlock.toList, w.heap.size ≤ k) := Lib.hid fun k hk => by have := (own2.lt k (by simpa using hk)).1; have := f1.size; omega
      have HOB1 : ∀ k ∈ (Value.slice ga g.length gc).ownBlock.toList, M + 1 < k := fun k hk => by have := (own2.lt k (by simpa using hk)).1; omega
      have hpold := pr2.old
      have HSK : Hid (∀ wa wb, Fr (Value.slice ga g.length gc).ownBlock.toList wa wb → Sl wa pa (bi (l.take at_)) → Sl wb pa (bi (l.take at_))) := Lib.hid fun wa wb hf hs => sl_keep hs hf (fun h0 b o e hm => by have := HOB1 b hm; have := hpold b o (by rw [bi_length, List.length_take] at h0; omega) e; omega)
      have HRK : Hid (∀ wb, Fr (Value.slice ga g.length gc).ownBlock.toList w2 wb → Rg wb (M + 1) M c (bi [])) := Lib.hid fun wb hf => r2.keep hf (fun hm => by have := HOB1 _ hm; omega) (fun hm => by have := HOB1 _ hm; omega)
      have HE1 := Lib.hid (Go.Proofs.enters_of Try.func26 (by kernel_rfl) rfl)
      have HE2 := Lib.hid (Go.Proofs.enters_of Try.func23 (by kernel_rfl) rfl)
      clear HOB1 hpold hcp hcg i3 i4 i5 hqv hvs hvb
      clear f2 hv pr rr hgs hgb hgm
      go_wp2_with fail
      have hs0 : ∀ w, (Instr.slice 29 (.slice pa l.length pc) none (some (.int .i64 at_)) none).run Try.prog w = .ok (.slice pa at_ pc) w := fun w => run_upto hl5 pl2 w
      refine wp_region_held_drew (S := fun w' => ∀ cap, (convert 29 9 (.slice pa at_ cap)).run Try.prog w' = .ok (.string (st (l.take at_))) w') (by kernel_rfl) hcp2 (fun hHeld => ?_)
      refine wpAnyH_take (i := 0) (oi := _) (v := ?_) (by simp only [List.getElem?_toArray, List.getElem?_cons_succ, List.getElem?_cons_zero]; exact rfl) (by kernel_rfl) (by kernel_rfl) (by kernel_rfl) (by exact fun _ _ _ h => h) (Or.inl ⟨by rfl, ?_⟩) (by assumption) ?_
      rotate_left
      · (intro w hSw; (try dsimp only at hSw); go_simp) <;> (with_reducible rfl)
      try simp only [Act.put, List.setIfInBounds_toArray, List.set_cons_zero, List.set_cons_succ]
      refine wpAnyH_take (i := 1) (oi := _) (v := ?_) (by simp only [List.getElem?_toArray, List.getElem?_cons_succ, List.getElem?_cons_zero]; exact rfl) (by kernel_rfl) (by kernel_rfl) (by kernel_rfl) (by exact fun _ _ _ h => h) (Or.inl ⟨by rfl, ?_⟩) (by assumption) ?_
      rotate_left
      · (intro w hSw; (try dsimp only at hSw); go_simp) <;> (with_reducible rfl)
      try simp only [Act.put, List.setIfInBounds_toArray, List.set_cons_zero, List.set_cons_succ]
      refine wpAnyH_take (i := 2) (oi := _) (v := ?_) (by simp only [List.getElem?_toArray, List.getElem?_cons_succ, List.getElem?_cons_zero]; exact rfl) (by kernel_rfl) (by kernel_rfl) (by kernel_rfl) (by exact fun _ _ _ h => h) (Or.inl ⟨by rfl, ?_⟩) (by assumption) ?_
      rotate_left
      · (intro w hSw; (try dsimp only at hSw); go_simp) <;> (with_reducible rfl)
      try simp only [Act.put, List.setIfInBounds_toArray, List.set_cons_zero, List.set_cons_succ]
      refine wpAnyH_take (i := 3) (oi := _) (v := ?_) (by simp only [List.getElem?_toArray, List.getElem?_cons_succ, List.getElem?_cons_zero]; exact rfl) (by kernel_rfl) (by kernel_rfl) (by kernel_rfl) (by exact fun _ _ _ h => h) (Or.inl ⟨by rfl, ?_⟩) (by assumption) ?_
      rotate_left
      · (intro w hSw; (try dsimp only at hSw); go_simp) <;> (with_reducible rfl)
      try simp only [Act.put, List.setIfInBounds_toArray, List.set_cons_zero, List.set_cons_succ]
      refine wpAnyH_take (i := 4) (oi := _) (v := ?_) (by simp only [List.getElem?_toArray, List.getElem?_cons_succ, List.getElem?_cons_zero]; exact rfl) (by kernel_rfl) (by kernel_rfl) (by kernel_rfl) (by exact fun _ _ _ h => h) (Or.inl ⟨by rfl, ?_⟩) (by assumption) ?_
      rotate_left
      · (intro w hSw; (try dsimp only at hSw); go_simp) <;> (with_reducible rfl)
      try simp only [Act.put, List.setIfInBounds_toArray, List.set_cons_zero, List.set_cons_succ]
      refine wpAnyH_take (i := 7) (oi := _) (v := ?_) (by simp only [List.getElem?_toArray, List.getElem?_cons_succ, List.getElem?_cons_zero]; exact rfl) (by kernel_rfl) (by kernel_rfl) (by kernel_rfl) (by exact fun _ _ _ h => h) (Or.inl ⟨by rfl, ?_⟩) (by assumption) ?_
      rotate_left
      · (intro w hSw; (try dsimp only at hSw); go_simp) <;> (with_reducible rfl)
      try simp only [Act.put, List.setIfInBounds_toArray, List.set_cons_zero, List.set_cons_succ]
      refine wpAnyH_take (i := 8) (oi := _) (v := ?_) (by simp only [List.getElem?_toArray, List.getElem?_cons_succ, List.getElem?_cons_zero]; exact rfl) (by kernel_rfl) (by kernel_rfl) (by kernel_rfl) (by exact fun _ _ _ h => h) (Or.inl ⟨by rfl, ?_⟩) (by assumption) ?_
      rotate_left
      · (intro w hSw; (try dsimp only at hSw); go_simp) <;> (with_reducible rfl)
      try simp only [Act.put, List.setIfInBounds_toArray, List.set_cons_zero, List.set_cons_succ]
      refine wpAnyH_take (i := 9) (oi := _) (v := ?_) (by simp only [List.getElem?_toArray, List.getElem?_cons_succ, List.getElem?_cons_zero]; exact rfl) (by kernel_rfl) (by kernel_rfl) (by kernel_rfl) (by exact fun _ _ _ h => h) (Or.inl ⟨by rfl, ?_⟩) (by assumption) ?_
      rotate_left
      · (intro w hSw; (try dsimp only at hSw); go_simp) <;> (with_reducible rfl)
      try simp only [Act.put, List.setIfInBounds_toArray, List.set_cons_zero, List.set_cons_succ]
      refine wpAnyH_take (i := 10) (oi := _) (v := ?_) (by simp only [List.getElem?_toArray, List.getElem?_cons_succ, List.getElem?_cons_zero]; exact rfl) (by kernel_rfl) (by kernel_rfl) (by kernel_rfl) (by exact fun _ _ _ h => h) (Or.inl ⟨by rfl, ?_⟩) (by assumption) ?_
      rotate_left
      · (intro w hSw; (try dsimp only at hSw); go_simp) <;> (with_reducible rfl)
      try simp only [Act.put, List.setIfInBounds_toArray, List.set_cons_zero, List.set_cons_succ]
      refine wpAnyH_ready (rs := [5]) (by kernel_rfl) (by simp) ?_
      refine AllReadyH.cons (o := _) (by simp only [List.getElem?_toArray, List.getElem?_cons_succ, List.getElem?_cons_zero]; exact rfl) (fun K hK => ?_) AllReadyH.nil
      refine step_append_fr (by simp [Region.wanted, yielded]) (.tmp 143) (.tmp 144) 29 rfl 5 (.int .u8 0) 1 HU.out HIN.out rfl w1.heap.size (.slice ga g.length gc) ((bi g).map (Value.int .u8)) (by simp [Act.eval]) own2 va q.length vc ((bi q).map (Value.int .u8)) (by simp [Act.eval]) HI5.out HQV.out HONE.out HI3.out HI4.out hs2 ?_
      intro v3 w3 own3 f3'
      have f3 := f3'.undrew
      obtain ⟨a3, c3, rfl, _, _, hs3, _⟩ := Ow.formB2 own3
      have hcg3 := HCG.out _ _ c3 hs3
      have r3 := HRK.out _ f3
      have hcp3 := HCP.out _ (HSK.out _ _ f3 sat)
      refine hK.out _ _ hcp3 (fun hHeld => ?_)
      clear hK K
      try simp only [Act.put, List.setIfInBounds_toArray, List.set_cons_zero, List.set_cons_succ]
      refine wpAnyH_strengthen (S' := fun w' => (convert 29 9 (.slice a3 (g.length + q.length) c3)).run Try.prog w' = .ok (.string (st (g ++ q))) w' ∧ ∀ cap, (convert 29 9 (.slice pa at_ cap)).run Try.prog w' = .ok (.string (st (l.take at_))) w') (fun _ h => h.2) _ _ _ _ ?_
      have hHeld1 := And.intro hcg3 hHeld
      refine wpAnyH_take (i := 6) (oi := _) (v := ?_) (by simp only [List.getElem?_toArray, List.getElem?_cons_succ, List.getElem?_cons_zero]; exact rfl) (by kernel_rfl) (by kernel_rfl) (by kernel_rfl) (by exact fun _ _ _ h => h) (Or.inl ⟨by rfl, ?_⟩) (by assumption) ?_
      rotate_left
      · (intro w hSw; (try dsimp only at hSw); go_simp) <;> (with_reducible rfl)
      try simp only [Act.put, List.setIfInBounds_toArray, List.set_cons_zero, List.set_cons_succ]
      refine wpAnyH_take (i := 11) (oi := _) (v := ?_) (by simp only [List.getElem?_toArray, List.getElem?_cons_succ, List.getElem?_cons_zero]; exact rfl) (by kernel_rfl) (by kernel_rfl) (by kernel_rfl) (by exact fun _ _ _ h => h) (Or.inl ⟨by rfl, ?_⟩) (by assumption) ?_
      rotate_left
      · (intro w hSw; (try dsimp only at hSw); go_simp) <;> (with_reducible rfl)
      try simp only [Act.put, List.setIfInBounds_toArray, List.set_cons_zero, List.set_cons_succ]
      refine wpAnyH_take (i := 12) (oi := _) (v := ?_) (by simp only [List.getElem?_toArray, List.getElem?_cons_succ, List.getElem?_cons_zero]; exact rfl) (by kernel_rfl) (by kernel_rfl) (by kernel_rfl) (by exact fun _ _ _ h => h) (Or.inl ⟨by rfl, ?_⟩) (by assumption) ?_
      rotate_left
      · (intro w hSw; (try dsimp only at hSw); go_simp) <;> (with_reducible rfl)
      try simp only [Act.put, List.setIfInBounds_toArray, List.set_cons_zero, List.set_cons_succ]
      refine wpAnyH_take (i := 13) (oi := _) (v := ?_) (by simp only [List.getElem?_toArray, List.getElem?_cons_succ, List.getElem?_cons_zero]; exact rfl) (by kernel_rfl) (by kernel_rfl) (by kernel_rfl) (by exact fun _ _ _ h => h) (Or.inl ⟨by rfl, ?_⟩) (by assumption) ?_
      rotate_left
      · (intro w hSw; (try dsimp only at hSw); go_simp) <;> (with_reducible rfl)
      try simp only [Act.put, List.setIfInBounds_toArray, List.set_cons_zero, List.set_cons_succ]
      refine wpAnyH_take (i := 14) (oi := _) (v := ?_) (by simp only [List.getElem?_toArray, List.getElem?_cons_succ, List.getElem?_cons_zero]; exact rfl) (by kernel_rfl) (by kernel_rfl) (by kernel_rfl) (by exact fun _ _ _ h => h) (Or.inl ⟨by rfl, ?_⟩) (by assumption) ?_
      rotate_left
      · (intro w hSw; (try dsimp only at hSw); go_simp) <;> (with_reducible rfl)
      try simp only [Act.put, List.setIfInBounds_toArray, List.set_cons_zero, List.set_cons_succ]
      refine wpAnyH_ready (rs := [15]) (by kernel_rfl) (by simp) ?_
      refine AllReadyH.cons (o := _) (by simp only [List.getElem?_toArray, List.getElem?_cons_succ, List.getElem?_cons_zero]; exact rfl) (fun K hK => ?_) AllReadyH.nil
      refine step_call (by simp [Region.wanted, yielded]) 26 #[.tmp 154] #[23] rfl HE1.out #[.pointer (some ⟨M + 1, 0, none⟩)] (by simp [Act.eval]) (HLEN.out _ r3) ?_
      rintro e w' ⟨rfl, rfl⟩
      refine ⟨_, rfl, ?_⟩
      refine hK.out _ _ hHeld1 (fun hHeld => ?_)
      clear hK K
      try simp only [Act.put, List.setIfInBounds_toArray, List.set_cons_zero, List.set_cons_succ]
      refine wpAnyH_take (i := 16) (oi := _) (v := ?_) (by simp only [List.getElem?_toArray, List.getElem?_cons_succ, List.getElem?_cons_zero]; exact rfl) (by kernel_rfl) (by kernel_rfl) (by kernel_rfl) (by exact fun _ _ _ h => h) (Or.inl ⟨by rfl, ?_⟩) (by assumption) ?_
      rotate_left
      · (intro w hSw; (try dsimp only at hSw); go_simp) <;> (with_reducible rfl)
      try simp only [Act.put, List.setIfInBounds_toArray, List.set_cons_zero, List.set_cons_succ]
      refine wpAnyH_take (i := 17) (oi := _) (v := ?_) (by simp only [List.getElem?_toArray, List.getElem?_cons_succ, List.getElem?_cons_zero]; exact rfl) (by kernel_rfl) (by kernel_rfl) (by kernel_rfl) (by exact fun _ _ _ h => h) (Or.inl ⟨by rfl, ?_⟩) (by assumption) ?_
      rotate_left
      · (intro w hSw; (try dsimp only at hSw); go_simp) <;> (with_reducible rfl)
      try simp only [Act.put, List.setIfInBounds_toArray, List.set_cons_zero, List.set_cons_succ]
      refine wpAnyH_take (i := 18) (oi := _) (v := ?_) (by simp only [List.getElem?_toArray, List.getElem?_cons_succ, List.getElem?_cons_zero]; exact rfl) (by kernel_rfl) (by kernel_rfl) (by kernel_rfl) (by exact fun _ _ _ h => h) (Or.inl ⟨by rfl, ?_⟩) (by assumption) ?_
      rotate_left
      · (intro w hSw; (try dsimp only at hSw); go_simp) <;> (with_reducible rfl)
      try simp only [Act.put, List.setIfInBounds_toArray, List.set_cons_zero, List.set_cons_succ]
      refine wpAnyH_ready (rs := [19]) (by kernel_rfl) (by simp) ?_
      refine AllReadyH.cons (o := _) (by simp only [List.getElem?_toArray, List.getElem?_cons_succ, List.getElem?_cons_zero]; exact rfl) (fun K hK => ?_) AllReadyH.nil
      refine step_call (by simp [Region.wanted, yielded]) 23 #[] #[] rfl HE2.out #[] (by simp) (known04_yes _) ?_
      rintro e w4 ⟨rfl, f4⟩
      refine ⟨_, rfl, ?_⟩
      refine hK.out _ _ ⟨HCG.out _ _ c3 (hs3.keep0 f4), HCP.out _ ((HSK.out _ _ f3 sat).keep0 f4)⟩ (fun hHeld => ?_)
      clear hK K
      try simp only [Act.put, List.setIfInBounds_toArray, List.set_cons_zero, List.set_cons_succ]
      refine wpAnyH_take (i := 20) (oi := _) (v := ?_) (by simp only [List.getElem?_toArray, List.getElem?_cons_succ, List.getElem?_cons_zero]; exact rfl) (by kernel_rfl) (by kernel_rfl) (by kernel_rfl) (by exact fun _ _ _ h => h) (Or.inl ⟨by rfl, ?_⟩) (by assumption) ?_
      rotate_left
      · (intro w hSw; (try dsimp only at hSw); go_simp) <;> (with_reducible rfl)
      try simp only [Act.put, List.setIfInBounds_toArray, List.set_cons_zero, List.set_cons_succ]
      refine wpAnyH_take (i := 21) (oi := _) (v := ?_) (by simp only [List.getElem?_toArray, List.getElem?_cons_succ, List.getElem?_cons_zero]; exact rfl) (by kernel_rfl) (by kernel_rfl) (by kernel_rfl) (by exact fun _ _ _ h => h) (Or.inl ⟨by rfl, ?_⟩) (by assumption) ?_
      rotate_left
      · (intro w hSw; (try dsimp only at hSw); go_simp) <;> (with_reducible rfl)
      try simp only [Act.put, List.setIfInBounds_toArray, List.set_cons_zero, List.set_cons_succ]
      refine wpAnyH_done (by kernel_rfl) ?_ _
      go_wp2_with fail
      go_ret
      exact ⟨rfl, (g2.trans f3 (fun _ h => .inl h) (fun k hk => .inr (HOB.out k hk))).then0 f4⟩

theorem ringHolds_walk {c : Int} {pa pb : Option Addr} {pl pc pm pd : Nat} (w : World) (h : ∃ l, Arg w w.heap.size pa pl pc l) (hn : ∃ l, Arg w w.heap.size pb pm pd l) :
    Calls Try.prog 5 #[.int .i64 c, .slice pa pl pc, .slice pb pm pd] w fun e w' => e = .returned (.bool true) ∧ Fr [] w w' := by
  obtain ⟨l, hp⟩ := h
  obtain ⟨ns, hn⟩ := hn
  by_cases h1 : c < 1
  · go_enter Try.func5, Try.ntmps5
    go_wp2_with fail
    refine (known04_yes _).mono ?_
    rintro e w' ⟨rfl, f⟩
    go_wp2_with fail
    go_ret
    exact ⟨rfl, f⟩
  by_cases h2 : 4096 < c
  · go_enter Try.func5, Try.ntmps5
    go_wp2_with fail
    refine (known04_yes _).mono ?_
    rintro e w' ⟨rfl, f⟩
    go_wp2_with fail
    go_ret
    exact ⟨rfl, f⟩
  by_cases h3 : (2000 : Int) < pl
  · go_enter Try.func5, Try.ntmps5
    go_wp2_with fail
    refine (known04_yes _).mono ?_
    rintro e w' ⟨rfl, f⟩
    go_wp2_with fail
    go_ret
    exact ⟨rfl, f⟩
  by_cases h4 : (200 : Int) < pm
  · go_enter Try.func5, Try.ntmps5
    go_wp2_with fail
    refine (known04_yes _).mono ?_
    rintro e w' ⟨rfl, f⟩
    go_wp2_with fail
    go_ret
    exact ⟨rfl, f⟩
  obtain ⟨c, rfl⟩ := Int.eq_ofNat_of_zero_le (a := c) (by omega)
  exact ringHolds_main c w hp hn (by omega) (by omega) (by omega) (by omega)
end Go.Proofs.Ytpkgjgfdobcboaa
