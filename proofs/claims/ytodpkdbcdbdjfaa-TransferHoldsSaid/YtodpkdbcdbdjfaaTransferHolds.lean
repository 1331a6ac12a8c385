/-
  Law 21: TransferHolds, the theorem of stage 21.
-/
import Derived.Test.YtodpkdbcdbdjfaaTrLaw
import Derived.Test.YtodpkdbcdbdjfaaTransferNone
import Derived.Test.YtodpkdbcdbdjfaaRef21
import Derived.BigRegion
import Derived.Deep.RegionHeld3
import Derived.Deep.RegionLaw
import Derived.Deep.DeepCutAuto
import Derived.Deep.CutBlock
import Derived.StillTailTactics
import Derived.Test.YtodpkdbcdbdjfaaRegionT
namespace Go.Proofs.Ytodpkdbcdbdjfaa
open Go.RowKit
set_option maxRecDepth 100000

theorem Sl.takeB {w : World} {a : Option Addr} {ps : List Int} (h : Sl w a ps) (n : Nat) : Sl w a (ps.take n) := fun h0 => by
  rw [List.length_take] at h0
  obtain ⟨b, o, e, hb, hc⟩ := h (by omega)
  refine ⟨b, o, e, hb, fun i hi => ?_⟩
  rw [List.length_take] at hi
  rw [hc i (by omega), getD_take _ _ _ (by omega)]
theorem Tr.out {W W' : World} {N : Nat → Prop} {b : Nat} {t : TS} (h : Tr W N b t) {S : List Nat} (f : Fr S W W') (hb : b ∉ S) (hS : ∀ x ∈ S, ¬ N x) : Tr W' (fun y => (N y ∧ y < W.heap.size) ∨ W'.heap.size ≤ y) b t := by
  obtain ⟨a, cap, P, h1, h2, h3, h4, h5, h6⟩ := h
  have hlt := lt_of_heap h1
  have hz := f.size
  refine ⟨a, cap, P, f.keep h1 hb, (h2.there.keep f (fun x hx hn => hS x hx hn.1)).mono (fun x hx => .inl hx), h3, ?_, fun x hx => .inr hx, h6⟩
  rintro (⟨hn, _⟩ | hn)
  · exact h4 hn
  · omega
/-- What lies in memory between two calls: the transfer, and two rows of bytes of the caller's own. -/
structure HS2 (W : World) (M b : Nat) (t : TS) (v u : Value) (I O : List UInt8) : Prop where
  tr : ∃ N, Tr W N b t ∧ (∀ x, v.ownBlock = some x → ¬ N x) ∧ (∀ x, u.ownBlock = some x → ¬ N x)
  o9 : Ow W M 5 v ((bi I).map (Value.int .u8))
  o10 : Ow W M 5 u ((bi O).map (Value.int .u8))
  ne : ∀ x, v.ownBlock = some x → u.ownBlock ≠ some x
  b9 : v.ownBlock ≠ some b
  b10 : u.ownBlock ≠ some b
section
variable {W : World} {M b : Nat} {t : TS} {v u : Value} {I O : List UInt8}
theorem HS2.lt (h : HS2 W M b t v u I O) : b < W.heap.size := by obtain ⟨N, ht, _⟩ := h.tr; exact ht.lt
theorem HS2.ok (h : HS2 W M b t v u I O) : TOk t := by obtain ⟨N, ht, _⟩ := h.tr; exact ht.ok
theorem HS2.keep0 (h : HS2 W M b t v u I O) {W' : World} (f : Fr [] W W') : HS2 W' M b t v u I O := by
  obtain ⟨N, ht, n9, n10⟩ := h.tr
  exact ⟨⟨N, ht.keep0 f, n9, n10⟩, h.o9.keep f (by simp), h.o10.keep f (by simp), h.ne, h.b9, h.b10⟩
theorem HS2.next (h : HS2 W M b t v u I O) (hr : t.rd ≤ 4611686018427387904) :
    Calls Try.prog 17 #[.pointer (some ⟨b, 0, none⟩)] W fun e w' => ∃ v, e = .returned v ∧ Fr [] W w' ∧ Wv w' W.heap.size v (nextT t) := by
  obtain ⟨N, ht, _⟩ := h.tr
  exact tr_next ht hr
theorem HS2.stage (h : HS2 W M b t v u I O) :
    Calls Try.prog 22 #[.pointer (some ⟨b, 0, none⟩)] W fun e w' => ∃ u, e = .returned u ∧ Fr [] W w' ∧ Ow w' W.heap.size 5 u ((bi t.s).map (Value.int .u8)) := by
  obtain ⟨N, ht, _⟩ := h.tr
  exact tr_stageT ht
theorem HS2.moved (h : HS2 W M b t v u I O) {x y : Int} (hx : t.rd = x) (hy : t.wr = y) :
    Calls Try.prog 20 #[.pointer (some ⟨b, 0, none⟩), .int .i64 x, .int .i64 y] W fun e w' => e = .returned (.bool true) ∧ Fr [] W w' := by
  subst hx hy
  obtain ⟨N, ht, _⟩ := h.tr
  exact moved_of (tr_movedT ht)
theorem HS2.got (h : HS2 W M b t v u I O) (hr : t.rd ≤ 4611686018427387904) {pa : Option Addr} {pcap : Nat} {p : List UInt8} (hs : Sl W pa (bi p)) (hm : p.length ≤ 65536) (e : Int) :
    Calls Try.prog 18 #[.pointer (some ⟨b, 0, none⟩), .slice pa p.length pcap, .int .i64 e] W fun x w' => x = .returned (.int .i64 (gotE t p e)) ∧ Fr [b] W w' ∧ HS2 w' M b (gotT t p e) v u I O := by
  obtain ⟨N, ht, n9, n10⟩ := h.tr
  refine (tr_got ht hr hs rfl hm e).mono ?_
  rintro x w' ⟨he, f, h'⟩
  exact ⟨he, f, ⟨N, h', n9, n10⟩, h.o9.keep f (fun k e hm => by simp at hm; subst hm; exact h.b9 e), h.o10.keep f (fun k e hm => by simp at hm; subst hm; exact h.b10 e), h.ne, h.b9, h.b10⟩
theorem HS2.wrote (h : HS2 W M b t v u I O) (hr : t.rd ≤ 4611686018427387904) (n e : Int) :
    Calls Try.prog 19 #[.pointer (some ⟨b, 0, none⟩), .int .i64 n, .int .i64 e] W fun x w' => x = .returned (.int .i64 (wroteE t n e)) ∧ Fr [b] W w' ∧ HS2 w' M b (wroteT t n e) v u I O := by
  obtain ⟨N, ht, n9, n10⟩ := h.tr
  refine (tr_wrote ht hr n e).mono ?_
  rintro x w' ⟨he, f, h'⟩
  exact ⟨he, f, ⟨N, h', n9, n10⟩, h.o9.keep f (fun k e hm => by simp at hm; subst hm; exact h.b9 e), h.o10.keep f (fun k e hm => by simp at hm; subst hm; exact h.b10 e), h.ne, h.b9, h.b10⟩
theorem HS2.swap (h : HS2 W M b t v u I O) : HS2 W M b t u v O I := by
  obtain ⟨N, ht, n9, n10⟩ := h.tr
  exact ⟨⟨N, ht, n10, n9⟩, h.o10, h.o9, fun x hx hy => h.ne x hy hx, h.b10, h.b9⟩
theorem HS2.push (h : HS2 W M b t v u I O) {W' : World} {v' : Value} {p : List UInt8} (o : Ow W' M 5 v' ((bi I).map (Value.int .u8) ++ (bi p).map (Value.int .u8))) (f : Fr v.ownBlock.toList W W') (hv : v'.ownBlock = v.ownBlock ∨ v'.ownBlock = some W.heap.size) : HS2 W' M b t v' u (I ++ p) O := by
  obtain ⟨N, ht, n9, n10⟩ := h.tr
  have hlt := ht.lt
  have hv' : ∀ x, v'.ownBlock = some x → v.ownBlock = some x ∨ x = W.heap.size := fun x hx => by
    rcases hv with e | e
    · exact .inl (by rw [← e, hx])
    · rw [hx] at e; injection e with e; exact .inr e
  have hlv := o.lt
  have hlu := h.o10.lt
  refine ⟨⟨_, ht.out f (fun hm => h.b9 (by simpa using hm)) (fun x hx => n9 x (by simpa using hx)), ?_, ?_⟩, ?_, h.o10.keep f (fun k e hm => h.ne k (by simpa using hm) e), ?_, ?_, h.b10⟩
  · rintro x hx (⟨hn, hn2⟩ | hn)
    · rcases hv' x hx with e | e
      · exact n9 x e hn
      · omega
    · have := (hlv x hx).2; omega
  · rintro x hx (⟨hn, hn2⟩ | hn)
    · exact n10 x hx hn
    · have := (hlu x hx).2; have := f.size; omega
  · rw [bi_append, List.map_append]; exact o
  · intro x hx hy
    rcases hv' x hx with e | e
    · exact h.ne x e hy
    · have := (hlu x hy).2; omega
  · intro hx
    rcases hv' b hx with e | e
    · exact h.b9 e
    · omega
end

set_option maxHeartbeats 16000000 in
theorem transferHolds_main {sg lm : Int} {a : Option Addr} {len cap : Nat} {A : List A21} (w : World) (hk : okS sg lm = true) (hA : Acts21 w w.heap.size a len cap A) (hs : fewB21 A = true) :
    Calls Try.prog 4 #[.int .i64 sg, .int .i64 lm, .slice a len cap] w fun e w' => e = .returned (.bool true) ∧ Fr [] w w' := by
  have hle := hA.len_eq
  subst hle
  have HFW := Lib.hid (hs ▸ few21 hA)
  have HVA := Lib.hid fun w => hk ▸ rvalid w sg lm
  obtain ⟨n30, hok30⟩ := fewB21_iff hs
  have HOK := Lib.hid hok30
  have hl30 : (A.length : Int) ≤ 30 := by omega
  have HNEW := Lib.hid (tr_new_ok w hk)
  have HSG := Lib.hid (okS_iff.1 hk)
  clear hk hs hok30 n30
  go_enter Try.func4, Try.ntmps4
  go_wp2_with fail
  refine HFW.out.mono ?_
  rintro e w' ⟨rfl, rfl⟩
  go_wp2_with fail
  refine (HVA.out _).mono ?_
  rintro e w' ⟨rfl, rfl⟩
  go_wp2_with fail
  refine HNEW.out.mono ?_
  rintro e w1 ⟨rfl, g1, h1⟩
  have a1 := hA.keep g1 (Nat.le_refl _) (by simp)
  have s1 : HS2 w1 w.heap.size w.heap.size (newT sg lm) (.slice none 0 0) (.slice none 0 0) [] [] := ⟨⟨_, h1, by simp [Value.ownBlock], by simp [Value.ownBlock]⟩, Ow.nil _ _ _, Ow.nil _ _ _, by simp [Value.ownBlock], by simp [Value.ownBlock], by simp [Value.ownBlock]⟩
  obtain ⟨b, hb⟩ : ∃ b, w.heap.size = b := ⟨_, rfl⟩
  have hbw : w.heap.size ≤ b := by omega
  have S1 : Hid (HS2 w1 w.heap.size b (newT sg lm) (.slice none 0 0) (.slice none 0 0) [] []) := Lib.hid (by rw [← hb]; exact s1)
  try rw [hb]
  clear hb s1 h1 HNEW HFW HVA hA
  go_wp2_with fail
  go_loopw [9, 10, 11, 12] (fun v9 v10 vf i wr => ∃ (k : Nat) (t : TS) (I O : List UInt8) (fl : Bool), k ≤ A.length ∧ i = .int .i64 k ∧ vf = .bool fl ∧ Hid (THI sg lm t I O fl) ∧ Hid (I.length ≤ k * 5000) ∧ Hid (HS2 wr w.heap.size b t v9 v10 I O) ∧ Fr [] w wr ∧ Acts21 wr w.heap.size a A.length cap A) (fun _ _ _ i _ => A.length - (intOf i).toNat)
  case atStart => exact ⟨0, newT sg lm, [], [], false, by omega, rfl, rfl, Lib.hid (THI.new _ _), Lib.hid (by simp), S1, g1, a1⟩
  case round =>
    clear S1 g1 a1
    obtain ⟨k, t, I, O, fl, hk, rfl, rfl, HI, HL, HH, gr, ar⟩ := hrel
    rename World => wr
    by_cases hlt : (k : Int) < A.length
    · have hkA : k < A.length := by omega
      obtain ⟨ab, ao, pa, pl, pc, rfl, habM, hab, c0, c1, c2, c3, hd, ⟨w0a, w0b⟩, ⟨w2a, w2b⟩, ⟨w3a, w3b⟩⟩ := ar.at_ k hkA
      have hok := HOK.out A[k] (List.getElem_mem hkA)
      generalize A[k] = ak at c0 c1 c2 c3 hd hok w0a w0b w2a w2b w3a w3b
      obtain ⟨what, data, n, er⟩ := ak
      dsimp only at c0 c1 c2 c3 hd hok w0a w0b w2a w2b w3a w3b
      have hpl := hd.len_eq
      subst hpl
      have hrd : t.rd ≤ 150000 := by have h1 := HI.out.rd; have h2 := HL.out; have : k * 5000 ≤ 30 * 5000 := Nat.mul_le_mul_right _ (by omega); omega
      have HNX := Lib.hid (HH.out.next (by omega))
      obtain ⟨kd, sd, m, d, ex, hx⟩ : ∃ k s m d er, nextT t = ⟨k, s, m, d, er⟩ := ⟨_, _, _, _, _, rfl⟩
      rw [hx] at HNX
      have HX := Lib.hid hx
      clear hx
      go_wp2_with fail
      refine HNX.out.mono ?_
      rintro e w2 ⟨nv, rfl, f2, hv⟩
      clear HNX
      obtain ⟨nu, rfl, ou⟩ := hv
      obtain ⟨ga, gc, rfl, hgc, hgm, hsl, hgn⟩ := ou.formB
      obtain ⟨wb, hwb, f, bx⟩ : ∃ W, w2.alloc (.cells #[.int .i64 kd, .int .i64 sd, .int .i64 m, .slice ga d.length gc, .int .i64 ex] 32) = W ∧ Fr [] w2 W ∧ WB W w2.heap.size (.int .i64 kd) (.int .i64 sd) (.int .i64 m) (.slice ga d.length gc) (.int .i64 ex) := ⟨_, rfl, (Fr.refl _ _).alloc _, newA rfl⟩
      have fb := f2.then0 f
      have gr0 := gr.size
      have hMb : w.heap.size ≤ wb.heap.size := Nat.le_trans gr0 fb.size
      have hgw : ∀ b' o, ga = some ⟨b', o, none⟩ → wr.heap.size ≤ b' := hgn
      have hbr := HH.out.lt
      have hcl : ∀ q, wb.cell? ⟨ab, q, none⟩ = wr.cell? ⟨ab, q, none⟩ := fun q => World.cell?_of_block (w := wr) (fb.block ab hab (by simp))
      rw [← hcl] at c0 c1 c2 c3
      have HB := Lib.hid (HH.out.keep0 fb)
      have gb := gr.then0 fb
      have abk := ar.keep fb gr.size (by simp)
      have hdb := hd.keep fb gr.size (by simp)
      have HSL := Lib.hid (sl_keep hsl f (by simp))
      have hXb : b < w2.heap.size := Nat.lt_of_lt_of_le HH.out.lt f2.size
      have habX : ab < w2.heap.size := Nat.lt_of_lt_of_le hab f2.size
      obtain ⟨x0, x1, x2, x3, x4, _⟩ := bx.cells
      obtain ⟨g9, k9, rfl, _⟩ := HB.out.o9.formB
      obtain ⟨g10, k10, rfl, _⟩ := HB.out.o10.formB
      clear ou hsl f f2 fb HH gr ar hd hcl
      go_upto_block 2 with fail
      go_cut [9, 10, 11] (fun v9 v10 vf wx => ∃ (t2 : TS) (I2 O2 : List UInt8) (fl2 : Bool), vf = .bool fl2 ∧ Hid (THI sg lm t2 I2 O2 fl2) ∧ Hid (I2.length ≤ (k + 1) * 5000) ∧ Hid (HS2 wx w.heap.size b t2 v9 v10 I2 O2) ∧ Fr [] w wx ∧ Acts21 wx w.heap.size (some ⟨ab, ao, none⟩) A.length cap A)
      case first =>
        have HCK := Lib.hid fun w3 (f3 : Fr [b] wb w3) => (show w3.cell? ⟨ab, ao + k * 4 + 1, none⟩ = some (.slice pa data.length pc) ∧ w3.cell? ⟨ab, ao + k * 4 + 2, none⟩ = some (.int .i64 n) ∧ w3.cell? ⟨ab, ao + k * 4 + 3, none⟩ = some (.int .i64 er) ∧ w3.cell? ⟨w2.heap.size, 0, none⟩ = some (.int .i64 kd) ∧ w3.cell? ⟨w2.heap.size, 3, none⟩ = some (.slice ga d.length gc) from by
          have hab' : ab ∉ [b] := by simp; omega
          have hcl : ∀ q, w3.cell? ⟨ab, q, none⟩ = wb.cell? ⟨ab, q, none⟩ := fun q => World.cell?_of_block (w := wb) (f3.block ab (by have := lt_of_heap bx; omega) hab')
          have by_ := f3.keep bx (show w2.heap.size ∉ [b] by simp; omega)
          exact ⟨(hcl _).trans c1, (hcl _).trans c2, (hcl _).trans c3, cell_of by_, cell_of by_⟩)
        have HU : Hid (Try.prog.underlying 22 = some (.slice 5)) := Lib.hid Try.underlying22
        have HIN : Hid ((Try.prog.info? 5).map (fun i => (i.zero, i.size, i.bytes)) = some (some (.int .u8 0), 1, 1)) := Lib.hid (by kernel_rfl)
        have d1 : wb.drew.cell? ⟨ab, ao + k * 4 + 1, none⟩ = some (.slice pa data.length pc) := c1
        have d2 : wb.drew.cell? ⟨ab, ao + k * 4 + 2, none⟩ = some (.int .i64 n) := c2
        have d3 : wb.drew.cell? ⟨ab, ao + k * 4 + 3, none⟩ = some (.int .i64 er) := c3
        have HALL := Lib.hid (And.intro gb (And.intro abk (And.intro hdb (And.intro hXb (And.intro habM gr0)))))
        clear gb abk
        by_cases q0 : what = 0
        · as_aux_lemma =>
          subst q0
          have HG := Lib.hid fun w1 (f : Fr [] wb w1) => (HB.out.keep0 f).got (pcap := pc) (by omega) (sl_keep hdb.sl f (by simp)) (show data.length ≤ 65536 by omega) er
          by_cases z : gotE t data er = 0
          · have HGT := Lib.hid (HI.out.got z)
            have kd1 : kd = 1 := by have := HGT.out.1; rw [HX.out] at this; exact this
            subst kd1
            rw [z] at HG
            replace HG := Lib.hid HG.out
            clear z
            go_wp2_with fail
            go_region_held3 (fun w' => w'.cell? ⟨ab, ao + k * 4 + 1, none⟩ = some (.slice pa data.length pc) ∧ w'.cell? ⟨ab, ao + k * 4 + 3, none⟩ = some (.int .i64 er))
              (first | (with_reducible exact ⟨t1, t3⟩) | (with_reducible exact ⟨c1, c3⟩) | (with_reducible exact ⟨d1, d3⟩))
              (first | (go_at_call 18; (with_reducible refine (HG.out wb.drew ((Fr.refl _ _).drew)).mono ?_); rintro e w3 ⟨rfl, f3', s3⟩; have f3 : Fr [b] wb w3 := Fr.undrew f3'; obtain ⟨t1, t2, t3, y0, y3⟩ := HCK.out _ f3))
            replace s3 := Lib.hid s3
            have s3o := s3.out.o9.lt
            have a3 := Lib.hid (HALL.out.2.1.keep f3 hMb (by simp; omega))
            have hd3 := Lib.hid (HALL.out.2.2.1.keep f3 hMb (by simp; omega)).sl.toV
            have g3 : Hid (Fr [] w w3) := Lib.hid (HALL.out.1.trans f3 (by simp) (fun x hx => .inr (by simp at hx; omega)))
            have hz3 := f3.size
            have hIl : (I.length : Int) ≤ 150000 := by have h2 := HL.out; have : k * 5000 ≤ 30 * 5000 := Nat.mul_le_mul_right _ (by omega); omega
            have H1 : Hid (((bi I).map (Value.int .u8)).length + data.length ≤ maxLen) := Lib.hid (by rw [List.length_map, bi_length]; unfold maxLen; omega)
            have H2 : Hid ((((bi I).map (Value.int .u8)).length + data.length) * 1 ≤ 140737488355328) := Lib.hid (by rw [List.length_map, bi_length]; omega)
            have H3 : Hid (((bi data).map (Value.int .u8)).length = data.length) := Lib.hid (by simp [bi])
            have H4 : Hid (w.heap.size ≤ w3.heap.size) := Lib.hid (by omega)
            clear f3 f3' HG
            go_wp2_with (refine wpList_append_fr _ rfl (.tmp 68) (.tmp 73) 22 rfl 5 (.int .u8 0) 1 HU.out HIN.out rfl w.heap.size (.slice g9 I.length k9) _ (by exact rfl) s3.out.o9 pa data.length pc ((bi data).map (Value.int .u8)) (by exact rfl) H3.out hd3.out (oneCell_bytes _) (by exact H1.out) (by exact H2.out) H4.out ?_)
            intro v4 w4 o4 f4 hb4
            have s4 := Lib.hid (s3.out.push o4.out f4 hb4)
            have g4 : Fr [] w w4 := g3.out.own f4 (fun k e => .inr (s3o k e).1)
            have a4 := a3.out.keep f4 (by have := H4.out; omega) (fun x hx => (s3o x (by simpa using hx)).1)
            clear o4 f4 hb4
            go_wp2_with fail
            go_meet
            exact ⟨gotT t data er, I ++ data, O, fl, rfl, Lib.hid HGT.out.2, Lib.hid (by have := HL.out; rw [List.length_append]; omega), s4, g4, a4⟩
          · have ht : gotT t data er = t := gotT_no rfl z
            have zb : (gotE t data er == 0) = false := by simpa using z
            rw [ht] at HG
            replace HG := Lib.hid HG.out
            generalize gotE t data er = ce at HG zb
            clear z ht
            go_wp2_with fail
            go_region_held3 (fun w' => w'.cell? ⟨ab, ao + k * 4 + 1, none⟩ = some (.slice pa data.length pc) ∧ w'.cell? ⟨ab, ao + k * 4 + 3, none⟩ = some (.int .i64 er))
              (first | (with_reducible exact ⟨t1, t3⟩) | (with_reducible exact ⟨c1, c3⟩) | (with_reducible exact ⟨d1, d3⟩))
              (first | (go_at_call 18; (with_reducible refine (HG.out wb.drew ((Fr.refl _ _).drew)).mono ?_); rintro e w3 ⟨rfl, f3', s3⟩; have f3 : Fr [b] wb w3 := Fr.undrew f3'; obtain ⟨t1, t2, t3, y0, y3⟩ := HCK.out _ f3))
            replace s3 := Lib.hid s3
            have a3 := HALL.out.2.1.keep f3 hMb (by simp; omega)
            have g3 : Fr [] w w3 := HALL.out.1.trans f3 (by simp) (fun x hx => .inr (by simp at hx; omega))
            clear f3 f3' HG
            go_wp2_with fail
            go_meet
            exact ⟨t, I, O, fl, rfl, HI, Lib.hid (by have := HL.out; omega), s3, g3, a3⟩
        · by_cases q1 : what = 1
          · as_aux_lemma =>
            subst q1
            have HW := Lib.hid fun w1 (f : Fr [] wb w1) => (HB.out.keep0 f).wrote (by omega) n er
            by_cases z : wroteE t n er = 0
            · have HWT := Lib.hid (HI.out.wrote z)
              have kd2 : kd = 2 := by have := HWT.out.1; rw [HX.out] at this; exact this
              have hds : d = t.s := by have := HWT.out.2.1; rw [HX.out] at this; exact this
              obtain ⟨nn, rfl⟩ : ∃ nn : Nat, n = nn := ⟨n.toNat, by have := HWT.out.2.2.1; omega⟩
              have hnd : nn ≤ d.length := by have := HWT.out.2.2.2.1; rw [hds]; omega
              have HDS := Lib.hid hds
              subst kd2
              rw [z] at HW
              replace HW := Lib.hid HW.out
              clear z hds
              go_wp2_with fail
              go_region_held3 (fun w' => w'.cell? ⟨ab, ao + k * 4 + 2, none⟩ = some (.int .i64 nn) ∧ w'.cell? ⟨ab, ao + k * 4 + 3, none⟩ = some (.int .i64 er))
                (first | (with_reducible exact ⟨t2, t3⟩) | (with_reducible exact ⟨c2, c3⟩) | (with_reducible exact ⟨d2, d3⟩))
                (first | (go_at_call 19; (with_reducible refine (HW.out wb.drew ((Fr.refl _ _).drew)).mono ?_); rintro e w3 ⟨rfl, f3', s3⟩; have f3 : Fr [b] wb w3 := Fr.undrew f3'; obtain ⟨t1, t2, t3, y0, y3⟩ := HCK.out _ f3))
              replace s3 := Lib.hid s3
              have s3o := s3.out.o10.lt
              have a3 := Lib.hid (HALL.out.2.1.keep f3 hMb (by simp; omega))
              have g3 : Hid (Fr [] w w3) := Lib.hid (HALL.out.1.trans f3 (by simp) (fun x hx => .inr (by simp at hx; omega)))
              have hz3 := f3.size
              have hOl : (O.length : Int) ≤ 150000 := by have h1 := HI.out.io; have h3 : I.length = O.length + t.s.length := by rw [h1, List.length_append]
                                                         have h2 := HL.out; have : k * 5000 ≤ 30 * 5000 := Nat.mul_le_mul_right _ (by omega); omega
              have hTl : (d.take nn).length = nn := by rw [List.length_take]; omega
              have hd5 : d.length ≤ 4096 := by have h1 := HI.out.sg; have h2 := HB.out.ok.few; have h3 := HB.out.ok.s2; rw [HDS.out]; omega
              have H1 : Hid (((bi O).map (Value.int .u8)).length + nn ≤ maxLen) := Lib.hid (by rw [List.length_map, bi_length]; unfold maxLen; omega)
              have H2 : Hid ((((bi O).map (Value.int .u8)).length + nn) * 1 ≤ 140737488355328) := Lib.hid (by rw [List.length_map, bi_length]; omega)
              have H3 : Hid (((bi (d.take nn)).map (Value.int .u8)).length = nn) := Lib.hid (by rw [List.length_map, bi_length, hTl])
              have H4 : Hid (w.heap.size ≤ w3.heap.size) := Lib.hid (by omega)
              have hw := HWT.out.2.2.2.2
              rw [Int.toNat_natCast, ← HDS.out, show decide (er ≠ 0) = (er != 0) from by by_cases h : er = 0 <;> simp [h]] at hw
              have HWI := Lib.hid hw
              have HSV := Lib.hid fun (w' : World) (f : Fr [] w3 w') => (show SlV w' ga ((bi (d.take nn)).map (Value.int .u8)) from by
                rw [bi_take, List.map_take]
                exact (((sl_keep HSL.out f3 (fun h0 b' o e hm => by have := hgw b' o e; simp at hm; omega)).toV).keep f (by simp)).take nn)
              have hrun : ∀ w, (Instr.slice 22 (.slice ga d.length gc) none (some (.int .i64 nn)) none).run Try.prog w = .ok (.slice ga nn gc) w := fun w => run_upto hnd hgc w
              have hn2 : (nn : Int) ≤ d.length := by omega
              have hn3 : (0 : Int) ≤ nn := by omega
              clear f3 f3' HW hw hTl hd5
              go_wp2_with fail
              go_quiet (fail)
              go_wp2_with fail
              obtain ⟨wx, hx, fx⟩ : ∃ wx, wx = w3.drewN nq ∧ Fr [] w3 wx := ⟨_, rfl, (Fr.refl _ _).drewN _⟩
              rw [← hx]
              have t2x : wx.cell? ⟨ab, ao + k * 4 + 2, none⟩ = some (.int .i64 nn) := by rw [hx]; exact t2
              have t3x : wx.drew.cell? ⟨ab, ao + k * 4 + 3, none⟩ = some (.int .i64 er) := by rw [hx]; exact t3
              have y3x : wx.cell? ⟨w2.heap.size, 3, none⟩ = some (.slice ga d.length gc) := by rw [hx]; exact y3
              have sx := Lib.hid (s3.out.keep0 fx.drew)
              have H4x := Lib.hid (Nat.le_trans H4.out fx.drew.size)
              have HSVx := Lib.hid (HSV.out _ fx.drew)
              have gx := Lib.hid (g3.out.then0 fx.drew)
              have ax := Lib.hid (a3.out.keep fx.drew H4.out (by simp))
              clear hx fx t1 t2 t3 y0 y3 HSV s3 g3 a3 H4
              go_still_tail 9, (by kernel_rfl)
              change wpList _ _ _ _ _ wx.drew
              generalize wx.drew = wy at *
              rcases (show fl = true ∨ fl = false by cases fl <;> simp) with rfl | rfl
              · rw [Bool.true_or] at HWI
                go_wp2_with (refine wpList_append_fr _ rfl (.tmp 112) (.tmp 120) 22 rfl 5 (.int .u8 0) 1 HU.out HIN.out rfl w.heap.size (.slice g10 O.length k10) _ (by exact rfl) sx.out.o10 ga nn gc ((bi (d.take nn)).map (Value.int .u8)) (by exact rfl) H3.out HSVx.out (oneCell_bytes _) (by exact H1.out) (by exact H2.out) H4x.out ?_)
                intro v4 w4 o4 f4 hb4
                have s4 := Lib.hid (sx.out.swap.push o4.out f4 hb4).swap
                have g4 : Fr [] w w4 := gx.out.own f4 (fun k e => .inr (s3o k e).1)
                have a4 := ax.out.keep f4 H4x.out (fun x hx => (s3o x (by simpa using hx)).1)
                have t3y : w4.cell? ⟨ab, ao + k * 4 + 3, none⟩ = some (.int .i64 er) := (World.cell?_of_block (w := wy) (f4.block ab (by have := H4x.out; omega) (fun hm => by have := (s3o ab (by simpa using hm)).1; omega))).trans t3x
                clear o4 f4 hb4
                go_wp2_with fail
                go_meet
                exact ⟨wroteT t nn er, I, O ++ d.take nn, true, rfl, HWI, Lib.hid (by have := HL.out; omega), s4, g4, a4⟩
              · rw [Bool.false_or] at HWI
                go_wp2_with (refine wpList_append_fr _ rfl (.tmp 112) (.tmp 120) 22 rfl 5 (.int .u8 0) 1 HU.out HIN.out rfl w.heap.size (.slice g10 O.length k10) _ (by exact rfl) sx.out.o10 ga nn gc ((bi (d.take nn)).map (Value.int .u8)) (by exact rfl) H3.out HSVx.out (oneCell_bytes _) (by exact H1.out) (by exact H2.out) H4x.out ?_)
                intro v4 w4 o4 f4 hb4
                have s4 := Lib.hid (sx.out.swap.push o4.out f4 hb4).swap
                have g4 : Fr [] w w4 := gx.out.own f4 (fun k e => .inr (s3o k e).1)
                have a4 := ax.out.keep f4 H4x.out (fun x hx => (s3o x (by simpa using hx)).1)
                have t3y : w4.cell? ⟨ab, ao + k * 4 + 3, none⟩ = some (.int .i64 er) := (World.cell?_of_block (w := wy) (f4.block ab (by have := H4x.out; omega) (fun hm => by have := (s3o ab (by simpa using hm)).1; omega))).trans t3x
                clear o4 f4 hb4
                go_wp2_with fail
                go_meet
                exact ⟨wroteT t nn er, I, O ++ d.take nn, (er != 0), rfl, HWI, Lib.hid (by have := HL.out; omega), s4, g4, a4⟩
            · have ht : wroteT t n er = t := wroteT_no rfl z
              have zb : (wroteE t n er == 0) = false := by simpa using z
              rw [ht] at HW
              replace HW := Lib.hid HW.out
              generalize wroteE t n er = ce at HW zb
              clear z ht
              go_wp2_with fail
              go_region_held3 (fun w' => w'.cell? ⟨ab, ao + k * 4 + 2, none⟩ = some (.int .i64 n) ∧ w'.cell? ⟨ab, ao + k * 4 + 3, none⟩ = some (.int .i64 er))
                (first | (with_reducible exact ⟨t2, t3⟩) | (with_reducible exact ⟨c2, c3⟩) | (with_reducible exact ⟨d2, d3⟩))
                (first | (go_at_call 19; (with_reducible refine (HW.out wb.drew ((Fr.refl _ _).drew)).mono ?_); rintro e w3 ⟨rfl, f3', s3⟩; have f3 : Fr [b] wb w3 := Fr.undrew f3'; obtain ⟨t1, t2, t3, y0, y3⟩ := HCK.out _ f3))
              replace s3 := Lib.hid s3
              have a3 := HALL.out.2.1.keep f3 hMb (by simp; omega)
              have g3 : Fr [] w w3 := HALL.out.1.trans f3 (by simp) (fun x hx => .inr (by simp at hx; omega))
              clear f3 f3' HW
              go_wp2_with fail
              go_meet
              exact ⟨t, I, O, fl, rfl, HI, Lib.hid (by have := HL.out; omega), s3, g3, a3⟩
          · as_aux_lemma =>
            have b0 : (what == 0) = false := by simpa using q0
            have b1 : (what == 1) = false := by simpa using q1
            clear q0 q1
            go_wp2_with fail
            go_meet
            exact ⟨t, I, O, fl, rfl, HI, Lib.hid (by have := HL.out; omega), HB, HALL.out.1, HALL.out.2.1⟩
      case rest =>
        obtain ⟨t2, I2, O2, fl2, rfl, HI2, HL2, HH2, g2, a2⟩ := hcut
        clear HB gb abk hdb HSL x0 x1 x2 x3 x4 bx hwb HX HI HL c0 c1 c2 c3 hgw
        have HT := Lib.hid (HI2.out.ok HH2.out.ok)
        have hrd2 : t2.rd ≤ 150000 := by have h1 := HI2.out.rd; have h2 := HL2.out; have : (k + 1) * 5000 ≤ 30 * 5000 := Nat.mul_le_mul_right _ (by omega); omega
        have HNX := Lib.hid (HH2.out.next (by omega))
        obtain ⟨kd, sd, m, d, ex, hx⟩ : ∃ k s m d er, nextT t2 = ⟨k, s, m, d, er⟩ := ⟨_, _, _, _, _, rfl⟩
        rw [hx] at HNX
        have hdone := HT.out.done
        rw [hx] at hdone
        have HD := Lib.hid hdone
        have HRW := Lib.hid (And.intro HI2.out.rd HI2.out.wr)
        clear hx hdone hrd2
        as_aux_lemma =>
          go_wp2_with fail
          refine HNX.out.mono ?_
          rintro e w3 ⟨nv, rfl, f3, hv⟩
          clear HNX
          obtain ⟨nu, rfl, ou⟩ := hv
          obtain ⟨na, nc, rfl, _⟩ := ou.formB
          obtain ⟨wb, hwb, f, bx⟩ : ∃ W, w3.alloc (.cells #[.int .i64 kd, .int .i64 sd, .int .i64 m, .slice na d.length nc, .int .i64 ex] 32) = W ∧ Fr [] w3 W ∧ WB W w3.heap.size (.int .i64 kd) (.int .i64 sd) (.int .i64 m) (.slice na d.length nc) (.int .i64 ex) := ⟨_, rfl, (Fr.refl _ _).alloc _, newA rfl⟩
          have fb := f3.then0 f
          have HB := Lib.hid (HH2.out.keep0 fb)
          have gb := Lib.hid (g2.then0 fb)
          have ab2 := Lib.hid (a2.keep fb g2.size (by simp))
          obtain ⟨q9, k9, rfl, p9, _, s9, _⟩ := HB.out.o9.formB
          obtain ⟨q10, k10, rfl, p10, _, s10, _⟩ := HB.out.o10.formB
          have hIO := HT.out.len
          have hs9a : ∀ w, (Instr.slice 22 (.slice q9 I2.length k9) none (some (.int .i64 O2.length)) none).run Try.prog w = .ok (.slice q9 O2.length k9) w := fun w => run_upto (by omega) p9 w
          have hs9b : ∀ w, (Instr.slice 22 (.slice q9 I2.length k9) (some (.int .i64 O2.length)) none none).run Try.prog w = .ok (.slice (cutp q9 k9 O2.length) (I2.length - O2.length) (k9 - O2.length)) w := fun w => run_cutl (by omega) w
          have CV10 := Lib.hid fun (w' : World) (f : Fr [] wb w') => (show ∀ c, (convert 22 9 (.slice q10 O2.length c)).run Try.prog w' = .ok (.string (st O2)) w' from fun c => conv_st (cap := c) (sl_keep s10 f (by simp)) rfl)
          have CV9 := Lib.hid fun (w' : World) (f : Fr [] wb w') => (show (convert 22 9 (.slice q9 O2.length k9)).run Try.prog w' = .ok (.string (st O2)) w' from by
            have h := conv_st (a := q9) (l := I2.take O2.length) (len := O2.length) (cap := k9) (w := w') (by rw [bi_take]; exact (sl_keep s9 f (by simp)).takeB _) (by rw [List.length_take]; omega)
            rwa [HT.out.pre] at h)
          have k1 : decide (I2.length < O2.length) = false := by simp; omega
          have HS9 := Lib.hid fun (w' : World) (f : Fr [] wb w') => (show (convert 22 9 (.slice (cutp q9 k9 O2.length) (I2.length - O2.length) (k9 - O2.length))).run Try.prog w' = .ok (.string (st t2.s)) w' from by
            have h := conv_st (a := cutp q9 k9 O2.length) (l := I2.drop O2.length) (len := I2.length - O2.length) (cap := k9 - O2.length) (w := w') (by
              have h1 := cutp_sl (cap := k9) (l := O2.length) (k := I2.length - O2.length) s9 (by rw [bi_length]; exact p9) (by rw [bi_length]; omega)
              rw [List.take_of_length_le (by rw [List.length_drop, bi_length]; omega), ← bi_drop] at h1
              exact sl_keep h1 f (by simp)) (by rw [List.length_drop])
            rwa [HT.out.rest] at h)
          have HST := Lib.hid fun (w1 : World) (f : Fr [] wb w1) => (HB.out.keep0 f).stage
          have HMV := Lib.hid fun (w1 : World) (f : Fr [] wb w1) => (HB.out.keep0 f).moved HRW.out.1 HRW.out.2
          have HBX := Lib.hid fun (w1 : World) (f : Fr [] wb w1) => (show w1.cell? ⟨w3.heap.size, 0, none⟩ = some (.int .i64 kd) ∧ w1.cell? ⟨w3.heap.size, 2, none⟩ = some (.int .i64 m) from ⟨cell_of (f.keep bx (by simp)), cell_of (f.keep bx (by simp))⟩)
          have hfew : decide (sg < t2.s.length) = false := by have := HT.out.few; simp; omega
          have HLIM := Lib.hid (And.intro HT.out.lim HSG.out.2.2.1)
          generalize t2.s = S at *
          generalize t2.rd = rd at *
          generalize t2.wr = wr2 at *
          clear ou f fb f3 s9 s10 p9 p10 HH2 g2 a2 HT
          go_wp2_with fail
          have HFA := Lib.hid fun (w1 : World) (f : Fr [] wb w1) => (show (∀ c, (convert 22 9 (.slice q10 O2.length c)).run Try.prog w1 = .ok (.string (st O2)) w1) ∧ (convert 22 9 (.slice q9 O2.length k9)).run Try.prog w1 = .ok (.string (st O2)) w1 ∧ (convert 22 9 (.slice (cutp q9 k9 O2.length) (I2.length - O2.length) (k9 - O2.length))).run Try.prog w1 = .ok (.string (st S)) w1 from ⟨CV10.out _ f, CV9.out _ f, HS9.out _ f⟩)
          have HEX := Lib.hid (Go.Proofs.enters_of Try.func22 (by kernel_rfl) rfl)
          have HEM := Lib.hid (Go.Proofs.enters_of Try.func20 (by kernel_rfl) rfl)
          have f0 : Fr [] wb wb.drew := (Fr.refl _ _).drew
          refine wp_region_order [(0, true), (1, true), (2, true), (3, true), (4, true), (5, true), (6, true), (7, true), (8, true), (9, true), (10, true), (11, true), (12, true), (13, true), (14, true), (15, true), (16, true), (19, true), (17, false), (18, true), (20, true), (21, true), (22, true), (23, true), (26, true), (27, true), (28, true), (29, true), (30, true), (24, false), (25, true), (31, true), (32, true), (33, true), (34, true), (35, true), (36, true), (37, true), (38, true), (39, true), (40, true), (41, true), (42, true), (43, true), (44, true), (45, true), (46, true), (47, true), (48, true), (49, false), (50, true), (51, true), (52, true), (53, true), (54, true), (55, true), (56, true), (57, true), (58, true), (59, true), (60, true), (61, true), (62, true), (63, true), (64, true), (65, true), (66, true), (67, true), (68, true), (69, true), (70, true), (71, true), (72, true), (73, true), (74, true)] (fun w' => Fr [] wb w') (by kernel_rfl) (by kernel_rfl) f0 ?_
          intro OPS HOPS
          have hops := HOPS.out
          try simp only [List.append_eq, List.cons_append, List.nil_append] at hops
          replace HOPS := Lib.hid hops
          clear hops
          refine walkO_take (o := _) (v := ?_) (by rw [HOPS.out]; simp only [List.getElem?_toArray, List.getElem?_cons_succ, List.getElem?_cons_zero]; exact rfl) (Or.inl ⟨rfl, ?_⟩) ?_
          rotate_left
          · (intro w hSw; have hSx := HFA.out _ hSw; (try dsimp only at hSx); clear hSw; go_simp) <;> (with_reducible rfl)
          simp only [Act.put, List.setIfInBounds_toArray, List.set_cons_zero, List.set_cons_succ]
          refine walkO_take (o := _) (v := ?_) (by rw [HOPS.out]; simp only [List.getElem?_toArray, List.getElem?_cons_succ, List.getElem?_cons_zero]; exact rfl) (Or.inl ⟨rfl, ?_⟩) ?_
          rotate_left
          · (intro w hSw; have hSx := HFA.out _ hSw; (try dsimp only at hSx); clear hSw; go_simp) <;> (with_reducible rfl)
          simp only [Act.put, List.setIfInBounds_toArray, List.set_cons_zero, List.set_cons_succ]
          refine walkO_take (o := _) (v := ?_) (by rw [HOPS.out]; simp only [List.getElem?_toArray, List.getElem?_cons_succ, List.getElem?_cons_zero]; exact rfl) (Or.inl ⟨rfl, ?_⟩) ?_
          rotate_left
          · (intro w hSw; have hSx := HFA.out _ hSw; (try dsimp only at hSx); clear hSw; go_simp) <;> (with_reducible rfl)
          simp only [Act.put, List.setIfInBounds_toArray, List.set_cons_zero, List.set_cons_succ]
          refine walkO_take (o := _) (v := ?_) (by rw [HOPS.out]; simp only [List.getElem?_toArray, List.getElem?_cons_succ, List.getElem?_cons_zero]; exact rfl) (Or.inl ⟨rfl, ?_⟩) ?_
          rotate_left
          · (intro w hSw; have hSx := HFA.out _ hSw; (try dsimp only at hSx); clear hSw; go_simp) <;> (with_reducible rfl)
          simp only [Act.put, List.setIfInBounds_toArray, List.set_cons_zero, List.set_cons_succ]
          refine walkO_take (o := _) (v := ?_) (by rw [HOPS.out]; simp only [List.getElem?_toArray, List.getElem?_cons_succ, List.getElem?_cons_zero]; exact rfl) (Or.inl ⟨rfl, ?_⟩) ?_
          rotate_left
          · (intro w hSw; have hSx := HFA.out _ hSw; (try dsimp only at hSx); clear hSw; go_simp) <;> (with_reducible rfl)
          simp only [Act.put, List.setIfInBounds_toArray, List.set_cons_zero, List.set_cons_succ]
          refine walkO_take (o := _) (v := ?_) (by rw [HOPS.out]; simp only [List.getElem?_toArray, List.getElem?_cons_succ, List.getElem?_cons_zero]; exact rfl) (Or.inl ⟨rfl, ?_⟩) ?_
          rotate_left
          · (intro w hSw; have hSx := HFA.out _ hSw; (try dsimp only at hSx); clear hSw; go_simp) <;> (with_reducible rfl)
          simp only [Act.put, List.setIfInBounds_toArray, List.set_cons_zero, List.set_cons_succ]
          refine walkO_take (o := _) (v := ?_) (by rw [HOPS.out]; simp only [List.getElem?_toArray, List.getElem?_cons_succ, List.getElem?_cons_zero]; exact rfl) (Or.inl ⟨by rw [HOPS.out]; rfl, ?_⟩) ?_
          rotate_left
          · (intro w hSw; have hSx := HFA.out _ hSw; (try dsimp only at hSx); clear hSw; go_simp) <;> (with_reducible rfl)
          simp only [Act.put, List.setIfInBounds_toArray, List.set_cons_zero, List.set_cons_succ]
          refine walkO_take (o := _) (v := ?_) (by rw [HOPS.out]; simp only [List.getElem?_toArray, List.getElem?_cons_succ, List.getElem?_cons_zero]; exact rfl) (Or.inl ⟨by rw [HOPS.out]; rfl, ?_⟩) ?_
          rotate_left
          · (intro w hSw; have hSx := HFA.out _ hSw; (try dsimp only at hSx); clear hSw; go_simp) <;> (with_reducible rfl)
          simp only [Act.put, List.setIfInBounds_toArray, List.set_cons_zero, List.set_cons_succ]
          refine walkO_take (o := _) (v := ?_) (by rw [HOPS.out]; simp only [List.getElem?_toArray, List.getElem?_cons_succ, List.getElem?_cons_zero]; exact rfl) (Or.inl ⟨by rw [HOPS.out]; rfl, ?_⟩) ?_
          rotate_left
          · (intro w hSw; have hSx := HFA.out _ hSw; (try dsimp only at hSx); clear hSw; go_simp) <;> (with_reducible rfl)
          simp only [Act.put, List.setIfInBounds_toArray, List.set_cons_zero, List.set_cons_succ]
          refine walkO_take (o := _) (v := ?_) (by rw [HOPS.out]; simp only [List.getElem?_toArray, List.getElem?_cons_succ, List.getElem?_cons_zero]; exact rfl) (Or.inl ⟨by rw [HOPS.out]; rfl, ?_⟩) ?_
          rotate_left
          · (intro w hSw; have hSx := HFA.out _ hSw; (try dsimp only at hSx); clear hSw; go_simp) <;> (with_reducible rfl)
          simp only [Act.put, List.setIfInBounds_toArray, List.set_cons_zero, List.set_cons_succ]
          refine walkO_take (o := _) (v := ?_) (by rw [HOPS.out]; simp only [List.getElem?_toArray, List.getElem?_cons_succ, List.getElem?_cons_zero]; exact rfl) (Or.inl ⟨by rw [HOPS.out]; rfl, ?_⟩) ?_
          rotate_left
          · (intro w hSw; have hSx := HFA.out _ hSw; (try dsimp only at hSx); clear hSw; go_simp) <;> (with_reducible rfl)
          simp only [Act.put, List.setIfInBounds_toArray, List.set_cons_zero, List.set_cons_succ]
          refine walkO_take (o := _) (v := ?_) (by rw [HOPS.out]; simp only [List.getElem?_toArray, List.getElem?_cons_succ, List.getElem?_cons_zero]; exact rfl) (Or.inl ⟨by rw [HOPS.out]; rfl, ?_⟩) ?_
          rotate_left
          · (intro w hSw; have hSx := HFA.out _ hSw; (try dsimp only at hSx); clear hSw; go_simp) <;> (with_reducible rfl)
          simp only [Act.put, List.setIfInBounds_toArray, List.set_cons_zero, List.set_cons_succ]
          refine walkO_take (o := _) (v := ?_) (by rw [HOPS.out]; simp only [List.getElem?_toArray, List.getElem?_cons_succ, List.getElem?_cons_zero]; exact rfl) (Or.inl ⟨by rw [HOPS.out]; rfl, ?_⟩) ?_
          rotate_left
          · (intro w hSw; have hSx := HFA.out _ hSw; (try dsimp only at hSx); clear hSw; go_simp) <;> (with_reducible rfl)
          simp only [Act.put, List.setIfInBounds_toArray, List.set_cons_zero, List.set_cons_succ]
          refine walkO_take (o := _) (v := ?_) (by rw [HOPS.out]; simp only [List.getElem?_toArray, List.getElem?_cons_succ, List.getElem?_cons_zero]; exact rfl) (Or.inl ⟨by rw [HOPS.out]; rfl, ?_⟩) ?_
          rotate_left
          · (intro w hSw; have hSx := HFA.out _ hSw; (try dsimp only at hSx); clear hSw; go_simp) <;> (with_reducible rfl)
          simp only [Act.put, List.setIfInBounds_toArray, List.set_cons_zero, List.set_cons_succ]
          refine walkO_take (o := _) (v := ?_) (by rw [HOPS.out]; simp only [List.getElem?_toArray, List.getElem?_cons_succ, List.getElem?_cons_zero]; exact rfl) (Or.inl ⟨rfl, ?_⟩) ?_
          rotate_left
          · (intro w hSw; have hSx := HFA.out _ hSw; (try dsimp only at hSx); clear hSw; go_simp) <;> (with_reducible rfl)
          simp only [Act.put, List.setIfInBounds_toArray, List.set_cons_zero, List.set_cons_succ]
          refine walkO_take (o := _) (v := ?_) (by rw [HOPS.out]; simp only [List.getElem?_toArray, List.getElem?_cons_succ, List.getElem?_cons_zero]; exact rfl) (Or.inl ⟨rfl, ?_⟩) ?_
          rotate_left
          · (intro w hSw; have hSx := HFA.out _ hSw; (try dsimp only at hSx); clear hSw; go_simp) <;> (with_reducible rfl)
          simp only [Act.put, List.setIfInBounds_toArray, List.set_cons_zero, List.set_cons_succ]
          refine walkO_take (o := _) (v := ?_) (by rw [HOPS.out]; simp only [List.getElem?_toArray, List.getElem?_cons_succ, List.getElem?_cons_zero]; exact rfl) (Or.inl ⟨by rw [HOPS.out]; rfl, ?_⟩) ?_
          rotate_left
          · (intro w hSw; have hSx := HFA.out _ hSw; (try dsimp only at hSx); clear hSw; go_simp) <;> (with_reducible rfl)
          simp only [Act.put, List.setIfInBounds_toArray, List.set_cons_zero, List.set_cons_succ]
          refine walkO_take (o := _) (v := ?_) (by rw [HOPS.out]; simp only [List.getElem?_toArray, List.getElem?_cons_succ, List.getElem?_cons_zero]; exact rfl) (Or.inl ⟨by rw [HOPS.out]; rfl, ?_⟩) ?_
          rotate_left
          · (intro w hSw; have hSx := HFA.out _ hSw; (try dsimp only at hSx); clear hSw; go_simp) <;> (with_reducible rfl)
          simp only [Act.put, List.setIfInBounds_toArray, List.set_cons_zero, List.set_cons_succ]
          refine walkO_call (o := _) (by rw [HOPS.out]; simp only [List.getElem?_toArray, List.getElem?_cons_succ, List.getElem?_cons_zero]; exact rfl) (fun K HK => ?_)
          refine step_call (by rw [HOPS.out]; rfl) 22 #[(.tmp 149)] #[27] rfl HEX.out #[.pointer (some ⟨b, 0, none⟩)] (by simp [Act.eval]) (HST.out _ f0) ?_
          rintro e w4 ⟨u4, rfl, f4', o4⟩
          have f4 : Fr [] wb w4 := f0.then0 f4'
          obtain ⟨sa, sc, rfl, _⟩ := o4.formB
          clear o4 f4'
          refine ⟨_, rfl, ?_⟩
          refine HK.out (fun w' => Fr [] wb w') _ _ (fun _ h => h) (f4) ?_
          clear HK K
          simp only [Act.put, List.setIfInBounds_toArray, List.set_cons_zero, List.set_cons_succ]
          refine walkO_take (o := _) (v := ?_) (by rw [HOPS.out]; simp only [List.getElem?_toArray, List.getElem?_cons_succ, List.getElem?_cons_zero]; exact rfl) (Or.inl ⟨by rw [HOPS.out]; rfl, ?_⟩) ?_
          rotate_left
          · (intro w hSw; have hSx := HFA.out _ hSw; (try dsimp only at hSx); clear hSw; go_simp) <;> (with_reducible rfl)
          simp only [Act.put, List.setIfInBounds_toArray, List.set_cons_zero, List.set_cons_succ]
          refine walkO_take (o := _) (v := ?_) (by rw [HOPS.out]; simp only [List.getElem?_toArray, List.getElem?_cons_succ, List.getElem?_cons_zero]; exact rfl) (Or.inl ⟨by rw [HOPS.out]; rfl, ?_⟩) ?_
          rotate_left
          · (intro w hSw; have hSx := HFA.out _ hSw; (try dsimp only at hSx); clear hSw; go_simp) <;> (with_reducible rfl)
          simp only [Act.put, List.setIfInBounds_toArray, List.set_cons_zero, List.set_cons_succ]
          refine walkO_take (o := _) (v := ?_) (by rw [HOPS.out]; simp only [List.getElem?_toArray, List.getElem?_cons_succ, List.getElem?_cons_zero]; exact rfl) (Or.inl ⟨rfl, ?_⟩) ?_
          rotate_left
          · (intro w hSw; have hSx := HFA.out _ hSw; (try dsimp only at hSx); clear hSw; go_simp) <;> (with_reducible rfl)
          simp only [Act.put, List.setIfInBounds_toArray, List.set_cons_zero, List.set_cons_succ]
          refine walkO_take (o := _) (v := ?_) (by rw [HOPS.out]; simp only [List.getElem?_toArray, List.getElem?_cons_succ, List.getElem?_cons_zero]; exact rfl) (Or.inl ⟨rfl, ?_⟩) ?_
          rotate_left
          · (intro w hSw; have hSx := HFA.out _ hSw; (try dsimp only at hSx); clear hSw; go_simp) <;> (with_reducible rfl)
          simp only [Act.put, List.setIfInBounds_toArray, List.set_cons_zero, List.set_cons_succ]
          refine walkO_take (o := _) (v := ?_) (by rw [HOPS.out]; simp only [List.getElem?_toArray, List.getElem?_cons_succ, List.getElem?_cons_zero]; exact rfl) (Or.inl ⟨by rw [HOPS.out]; rfl, ?_⟩) ?_
          rotate_left
          · (intro w hSw; have hSx := HFA.out _ hSw; (try dsimp only at hSx); clear hSw; go_simp) <;> (with_reducible rfl)
          simp only [Act.put, List.setIfInBounds_toArray, List.set_cons_zero, List.set_cons_succ]
          refine walkO_take (o := _) (v := ?_) (by rw [HOPS.out]; simp only [List.getElem?_toArray, List.getElem?_cons_succ, List.getElem?_cons_zero]; exact rfl) (Or.inl ⟨by rw [HOPS.out]; rfl, ?_⟩) ?_
          rotate_left
          · (intro w hSw; have hSx := HFA.out _ hSw; (try dsimp only at hSx); clear hSw; go_simp) <;> (with_reducible rfl)
          simp only [Act.put, List.setIfInBounds_toArray, List.set_cons_zero, List.set_cons_succ]
          refine walkO_take (o := _) (v := ?_) (by rw [HOPS.out]; simp only [List.getElem?_toArray, List.getElem?_cons_succ, List.getElem?_cons_zero]; exact rfl) (Or.inl ⟨by rw [HOPS.out]; rfl, ?_⟩) ?_
          rotate_left
          · (intro w hSw; have hSx := HFA.out _ hSw; (try dsimp only at hSx); clear hSw; go_simp) <;> (with_reducible rfl)
          simp only [Act.put, List.setIfInBounds_toArray, List.set_cons_zero, List.set_cons_succ]
          refine walkO_take (o := _) (v := ?_) (by rw [HOPS.out]; simp only [List.getElem?_toArray, List.getElem?_cons_succ, List.getElem?_cons_zero]; exact rfl) (Or.inl ⟨by rw [HOPS.out]; rfl, ?_⟩) ?_
          rotate_left
          · (intro w hSw; have hSx := HFA.out _ hSw; (try dsimp only at hSx); clear hSw; go_simp) <;> (with_reducible rfl)
          simp only [Act.put, List.setIfInBounds_toArray, List.set_cons_zero, List.set_cons_succ]
          refine walkO_take (o := _) (v := ?_) (by rw [HOPS.out]; simp only [List.getElem?_toArray, List.getElem?_cons_succ, List.getElem?_cons_zero]; exact rfl) (Or.inl ⟨by rw [HOPS.out]; rfl, ?_⟩) ?_
          rotate_left
          · (intro w hSw; have hSx := HFA.out _ hSw; (try dsimp only at hSx); clear hSw; go_simp) <;> (with_reducible rfl)
          simp only [Act.put, List.setIfInBounds_toArray, List.set_cons_zero, List.set_cons_succ]
          refine walkO_take (o := _) (v := ?_) (by rw [HOPS.out]; simp only [List.getElem?_toArray, List.getElem?_cons_succ, List.getElem?_cons_zero]; exact rfl) (Or.inl ⟨by rw [HOPS.out]; rfl, ?_⟩) ?_
          rotate_left
          · (intro w hSw; have hSx := HFA.out _ hSw; (try dsimp only at hSx); clear hSw; go_simp) <;> (with_reducible rfl)
          simp only [Act.put, List.setIfInBounds_toArray, List.set_cons_zero, List.set_cons_succ]
          refine walkO_call (o := _) (by rw [HOPS.out]; simp only [List.getElem?_toArray, List.getElem?_cons_succ, List.getElem?_cons_zero]; exact rfl) (fun K HK => ?_)
          refine step_call (by rw [HOPS.out]; rfl) 22 #[(.tmp 156)] #[27] rfl HEX.out #[.pointer (some ⟨b, 0, none⟩)] (by simp [Act.eval]) (HST.out _ f4) ?_
          rintro e w5 ⟨u5, rfl, f5', o5⟩
          have f5 : Fr [] wb w5 := f4.then0 f5'
          obtain ⟨ta, tc, rfl, _, _, ts, _⟩ := o5.formB
          have HFB := Lib.hid fun (w1 : World) (f : Fr [] w5 w1) => (show (∀ c, (convert 22 9 (.slice ta S.length c)).run Try.prog w1 = .ok (.string (st S)) w1) from fun c => conv_st (cap := c) (sl_keep ts f (by simp)) rfl)
          clear o5 ts f5'
          refine ⟨_, rfl, ?_⟩
          refine HK.out (fun w' => Fr [] w5 w') _ _ (fun _ h => f5.then0 h) (Fr.refl _ _) ?_
          clear HK K
          simp only [Act.put, List.setIfInBounds_toArray, List.set_cons_zero, List.set_cons_succ]
          refine walkO_take (o := _) (v := ?_) (by rw [HOPS.out]; simp only [List.getElem?_toArray, List.getElem?_cons_succ, List.getElem?_cons_zero]; exact rfl) (Or.inl ⟨by rw [HOPS.out]; rfl, ?_⟩) ?_
          rotate_left
          · (intro w hSw; have hSx := HFB.out _ hSw; (try dsimp only at hSx); clear hSw; go_simp) <;> (with_reducible rfl)
          simp only [Act.put, List.setIfInBounds_toArray, List.set_cons_zero, List.set_cons_succ]
          refine walkO_take (o := _) (v := ?_) (by rw [HOPS.out]; simp only [List.getElem?_toArray, List.getElem?_cons_succ, List.getElem?_cons_zero]; exact rfl) (Or.inl ⟨by rw [HOPS.out]; rfl, ?_⟩) ?_
          rotate_left
          · (intro w hSw; have hSx := HFB.out _ hSw; (try dsimp only at hSx); clear hSw; go_simp) <;> (with_reducible rfl)
          simp only [Act.put, List.setIfInBounds_toArray, List.set_cons_zero, List.set_cons_succ]
          refine walkO_take (o := _) (v := ?_) (by rw [HOPS.out]; simp only [List.getElem?_toArray, List.getElem?_cons_succ, List.getElem?_cons_zero]; exact rfl) (Or.inl ⟨rfl, ?_⟩) ?_
          rotate_left
          · (intro w hSw; have hSx := HFB.out _ hSw; (try dsimp only at hSx); clear hSw; go_simp) <;> (with_reducible rfl)
          simp only [Act.put, List.setIfInBounds_toArray, List.set_cons_zero, List.set_cons_succ]
          refine walkO_take (o := _) (v := ?_) (by rw [HOPS.out]; simp only [List.getElem?_toArray, List.getElem?_cons_succ, List.getElem?_cons_zero]; exact rfl) (Or.inl ⟨rfl, ?_⟩) ?_
          rotate_left
          · (intro w hSw; have hSx := HFB.out _ hSw; (try dsimp only at hSx); clear hSw; go_simp) <;> (with_reducible rfl)
          simp only [Act.put, List.setIfInBounds_toArray, List.set_cons_zero, List.set_cons_succ]
          rcases (show lm = -1 ∨ (0 ≤ lm ∧ (I2.length : Int) ≤ lm) from by have := HLIM.out.1; have := HLIM.out.2; omega) with rfl | ⟨l0, l1⟩
          · as_aux_lemma =>
            refine walkO_take (o := _) (v := ?_) (by rw [HOPS.out]; simp only [List.getElem?_toArray, List.getElem?_cons_succ, List.getElem?_cons_zero]; exact rfl) (Or.inl ⟨by rw [HOPS.out]; rfl, ?_⟩) ?_
            rotate_left
            · (intro w hSw; have hSx := HFB.out _ hSw; (try dsimp only at hSx); clear hSw; go_simp) <;> (with_reducible rfl)
            simp only [Act.put, List.setIfInBounds_toArray, List.set_cons_zero, List.set_cons_succ]
            refine walkO_take (o := _) (v := ?_) (by rw [HOPS.out]; simp only [List.getElem?_toArray, List.getElem?_cons_succ, List.getElem?_cons_zero]; exact rfl) (Or.inl ⟨by rw [HOPS.out]; rfl, ?_⟩) ?_
            rotate_left
            · (intro w hSw; have hSx := HFB.out _ hSw; (try dsimp only at hSx); clear hSw; go_simp) <;> (with_reducible rfl)
            simp only [Act.put, List.setIfInBounds_toArray, List.set_cons_zero, List.set_cons_succ]
            refine walkO_take (o := _) (v := ?_) (by rw [HOPS.out]; simp only [List.getElem?_toArray, List.getElem?_cons_succ, List.getElem?_cons_zero]; exact rfl) (Or.inl ⟨by rw [HOPS.out]; rfl, ?_⟩) ?_
            rotate_left
            · (intro w hSw; have hSx := HFB.out _ hSw; (try dsimp only at hSx); clear hSw; go_simp) <;> (with_reducible rfl)
            simp only [Act.put, List.setIfInBounds_toArray, List.set_cons_zero, List.set_cons_succ]
            refine walkO_take (o := _) (v := undef) (by rw [HOPS.out]; simp only [List.getElem?_toArray, List.getElem?_cons_succ, List.getElem?_cons_zero]; exact rfl) (Or.inr ⟨by rw [HOPS.out]; rfl, rfl⟩) ?_
            simp only [Act.put, List.setIfInBounds_toArray, List.set_cons_zero, List.set_cons_succ]
            refine walkO_take (o := _) (v := undef) (by rw [HOPS.out]; simp only [List.getElem?_toArray, List.getElem?_cons_succ, List.getElem?_cons_zero]; exact rfl) (Or.inr ⟨by rw [HOPS.out]; rfl, rfl⟩) ?_
            simp only [Act.put, List.setIfInBounds_toArray, List.set_cons_zero, List.set_cons_succ]
            refine walkO_take (o := _) (v := undef) (by rw [HOPS.out]; simp only [List.getElem?_toArray, List.getElem?_cons_succ, List.getElem?_cons_zero]; exact rfl) (Or.inr ⟨by rw [HOPS.out]; rfl, rfl⟩) ?_
            simp only [Act.put, List.setIfInBounds_toArray, List.set_cons_zero, List.set_cons_succ]
            refine walkO_take (o := _) (v := undef) (by rw [HOPS.out]; simp only [List.getElem?_toArray, List.getElem?_cons_succ, List.getElem?_cons_zero]; exact rfl) (Or.inr ⟨by rw [HOPS.out]; rfl, rfl⟩) ?_
            simp only [Act.put, List.setIfInBounds_toArray, List.set_cons_zero, List.set_cons_succ]
            refine walkO_take (o := _) (v := ?_) (by rw [HOPS.out]; simp only [List.getElem?_toArray, List.getElem?_cons_succ, List.getElem?_cons_zero]; exact rfl) (Or.inl ⟨by rw [HOPS.out]; rfl, ?_⟩) ?_
            rotate_left
            · (intro w hSw; have hSx := HFB.out _ hSw; (try dsimp only at hSx); clear hSw; go_simp) <;> (with_reducible rfl)
            simp only [Act.put, List.setIfInBounds_toArray, List.set_cons_zero, List.set_cons_succ]
            refine walkO_take (o := _) (v := ?_) (by rw [HOPS.out]; simp only [List.getElem?_toArray, List.getElem?_cons_succ, List.getElem?_cons_zero]; exact rfl) (Or.inl ⟨rfl, ?_⟩) ?_
            rotate_left
            · (intro w hSw; have hSx := HFB.out _ hSw; (try dsimp only at hSx); clear hSw; go_simp) <;> (with_reducible rfl)
            simp only [Act.put, List.setIfInBounds_toArray, List.set_cons_zero, List.set_cons_succ]
            refine walkO_take (o := _) (v := ?_) (by rw [HOPS.out]; simp only [List.getElem?_toArray, List.getElem?_cons_succ, List.getElem?_cons_zero]; exact rfl) (Or.inl ⟨rfl, ?_⟩) ?_
            rotate_left
            · (intro w hSw; have hSx := HFB.out _ hSw; (try dsimp only at hSx); clear hSw; go_simp) <;> (with_reducible rfl)
            simp only [Act.put, List.setIfInBounds_toArray, List.set_cons_zero, List.set_cons_succ]
            refine walkO_take (o := _) (v := ?_) (by rw [HOPS.out]; simp only [List.getElem?_toArray, List.getElem?_cons_succ, List.getElem?_cons_zero]; exact rfl) (Or.inl ⟨by rw [HOPS.out]; rfl, ?_⟩) ?_
            rotate_left
            · (intro w hSw; have hSx := HFB.out _ hSw; (try dsimp only at hSx); clear hSw; go_simp) <;> (with_reducible rfl)
            simp only [Act.put, List.setIfInBounds_toArray, List.set_cons_zero, List.set_cons_succ]
            refine walkO_take (o := _) (v := ?_) (by rw [HOPS.out]; simp only [List.getElem?_toArray, List.getElem?_cons_succ, List.getElem?_cons_zero]; exact rfl) (Or.inl ⟨by rw [HOPS.out]; rfl, ?_⟩) ?_
            rotate_left
            · (intro w hSw; have hSx := HFB.out _ hSw; (try dsimp only at hSx); clear hSw; go_simp) <;> (with_reducible rfl)
            simp only [Act.put, List.setIfInBounds_toArray, List.set_cons_zero, List.set_cons_succ]
            refine walkO_take (o := _) (v := ?_) (by rw [HOPS.out]; simp only [List.getElem?_toArray, List.getElem?_cons_succ, List.getElem?_cons_zero]; exact rfl) (Or.inl ⟨by rw [HOPS.out]; rfl, ?_⟩) ?_
            rotate_left
            · (intro w hSw; have hSx := HFB.out _ hSw; (try dsimp only at hSx); clear hSw; go_simp) <;> (with_reducible rfl)
            simp only [Act.put, List.setIfInBounds_toArray, List.set_cons_zero, List.set_cons_succ]
            refine walkO_take (o := _) (v := ?_) (by rw [HOPS.out]; simp only [List.getElem?_toArray, List.getElem?_cons_succ, List.getElem?_cons_zero]; exact rfl) (Or.inl ⟨by rw [HOPS.out]; rfl, ?_⟩) ?_
            rotate_left
            · (intro w hSw; have hSx := HFB.out _ hSw; (try dsimp only at hSx); clear hSw; go_simp) <;> (with_reducible rfl)
            simp only [Act.put, List.setIfInBounds_toArray, List.set_cons_zero, List.set_cons_succ]
            refine walkO_take (o := _) (v := ?_) (by rw [HOPS.out]; simp only [List.getElem?_toArray, List.getElem?_cons_succ, List.getElem?_cons_zero]; exact rfl) (Or.inl ⟨by rw [HOPS.out]; rfl, ?_⟩) ?_
            rotate_left
            · (intro w hSw; have hSx := HFB.out _ hSw; (try dsimp only at hSx); clear hSw; go_simp) <;> (with_reducible rfl)
            simp only [Act.put, List.setIfInBounds_toArray, List.set_cons_zero, List.set_cons_succ]
            refine walkO_call (o := _) (by rw [HOPS.out]; simp only [List.getElem?_toArray, List.getElem?_cons_succ, List.getElem?_cons_zero]; exact rfl) (fun K HK => ?_)
            refine step_call (by rw [HOPS.out]; rfl) 20 #[(.tmp 177), (.tmp 179), (.tmp 181)] #[27, 3, 3] rfl HEM.out #[.pointer (some ⟨b, 0, none⟩), .int .i64 I2.length, .int .i64 O2.length] (by simp [Act.eval]) (HMV.out _ f5) ?_
            rintro e w6 ⟨rfl, f6'⟩
            have f6 : Fr [] wb w6 := f5.then0 f6'
            have HFC := Lib.hid fun (w1 : World) (f : Fr [] w6 w1) => HBX.out _ (f6.then0 f)
            refine ⟨_, rfl, ?_⟩
            refine HK.out (fun w' => Fr [] w6 w') _ _ (fun _ h => f6'.then0 h) (Fr.refl _ _) ?_
            clear HK K
            simp only [Act.put, List.setIfInBounds_toArray, List.set_cons_zero, List.set_cons_succ]
            by_cases hk4 : kd = 4
            · subst hk4
              obtain ⟨hm, hfl⟩ := HD.out rfl
              subst hm
              have HFL := Lib.hid hfl
              clear hfl
              rcases (show fl2 = true ∨ fl2 = false by cases fl2 <;> simp) with rfl | rfl
              · as_aux_lemma =>
                refine walkO_take (o := _) (v := ?_) (by rw [HOPS.out]; simp only [List.getElem?_toArray, List.getElem?_cons_succ, List.getElem?_cons_zero]; exact rfl) (Or.inl ⟨by rw [HOPS.out]; rfl, ?_⟩) ?_
                rotate_left
                · (intro w hSw; have hSx := HFC.out _ hSw; (try dsimp only at hSx); clear hSw; go_simp) <;> (with_reducible rfl)
                simp only [Act.put, List.setIfInBounds_toArray, List.set_cons_zero, List.set_cons_succ]
                refine walkO_take (o := _) (v := ?_) (by rw [HOPS.out]; simp only [List.getElem?_toArray, List.getElem?_cons_succ, List.getElem?_cons_zero]; exact rfl) (Or.inl ⟨rfl, ?_⟩) ?_
                rotate_left
                · (intro w hSw; have hSx := HFC.out _ hSw; (try dsimp only at hSx); clear hSw; go_simp) <;> (with_reducible rfl)
                simp only [Act.put, List.setIfInBounds_toArray, List.set_cons_zero, List.set_cons_succ]
                refine walkO_take (o := _) (v := ?_) (by rw [HOPS.out]; simp only [List.getElem?_toArray, List.getElem?_cons_succ, List.getElem?_cons_zero]; exact rfl) (Or.inl ⟨rfl, ?_⟩) ?_
                rotate_left
                · (intro w hSw; have hSx := HFC.out _ hSw; (try dsimp only at hSx); clear hSw; go_simp) <;> (with_reducible rfl)
                simp only [Act.put, List.setIfInBounds_toArray, List.set_cons_zero, List.set_cons_succ]
                refine walkO_take (o := _) (v := ?_) (by rw [HOPS.out]; simp only [List.getElem?_toArray, List.getElem?_cons_succ, List.getElem?_cons_zero]; exact rfl) (Or.inl ⟨by rw [HOPS.out]; rfl, ?_⟩) ?_
                rotate_left
                · (intro w hSw; have hSx := HFC.out _ hSw; (try dsimp only at hSx); clear hSw; go_simp) <;> (with_reducible rfl)
                simp only [Act.put, List.setIfInBounds_toArray, List.set_cons_zero, List.set_cons_succ]
                refine walkO_take (o := _) (v := ?_) (by rw [HOPS.out]; simp only [List.getElem?_toArray, List.getElem?_cons_succ, List.getElem?_cons_zero]; exact rfl) (Or.inl ⟨by rw [HOPS.out]; rfl, ?_⟩) ?_
                rotate_left
                · (intro w hSw; have hSx := HFC.out _ hSw; (try dsimp only at hSx); clear hSw; go_simp) <;> (with_reducible rfl)
                simp only [Act.put, List.setIfInBounds_toArray, List.set_cons_zero, List.set_cons_succ]
                refine walkO_take (o := _) (v := ?_) (by rw [HOPS.out]; simp only [List.getElem?_toArray, List.getElem?_cons_succ, List.getElem?_cons_zero]; exact rfl) (Or.inl ⟨by rw [HOPS.out]; rfl, ?_⟩) ?_
                rotate_left
                · (intro w hSw; have hSx := HFC.out _ hSw; (try dsimp only at hSx); clear hSw; go_simp) <;> (with_reducible rfl)
                simp only [Act.put, List.setIfInBounds_toArray, List.set_cons_zero, List.set_cons_succ]
                refine walkO_take (o := _) (v := ?_) (by rw [HOPS.out]; simp only [List.getElem?_toArray, List.getElem?_cons_succ, List.getElem?_cons_zero]; exact rfl) (Or.inl ⟨by rw [HOPS.out]; rfl, ?_⟩) ?_
                rotate_left
                · (intro w hSw; have hSx := HFC.out _ hSw; (try dsimp only at hSx); clear hSw; go_simp) <;> (with_reducible rfl)
                simp only [Act.put, List.setIfInBounds_toArray, List.set_cons_zero, List.set_cons_succ]
                refine walkO_take (o := _) (v := ?_) (by rw [HOPS.out]; simp only [List.getElem?_toArray, List.getElem?_cons_succ, List.getElem?_cons_zero]; exact rfl) (Or.inl ⟨by rw [HOPS.out]; rfl, ?_⟩) ?_
                rotate_left
                · (intro w hSw; have hSx := HFC.out _ hSw; (try dsimp only at hSx); clear hSw; go_simp) <;> (with_reducible rfl)
                simp only [Act.put, List.setIfInBounds_toArray, List.set_cons_zero, List.set_cons_succ]
                refine walkO_take (o := _) (v := ?_) (by rw [HOPS.out]; simp only [List.getElem?_toArray, List.getElem?_cons_succ, List.getElem?_cons_zero]; exact rfl) (Or.inl ⟨by rw [HOPS.out]; rfl, ?_⟩) ?_
                rotate_left
                · (intro w hSw; have hSx := HFC.out _ hSw; (try dsimp only at hSx); clear hSw; go_simp) <;> (with_reducible rfl)
                simp only [Act.put, List.setIfInBounds_toArray, List.set_cons_zero, List.set_cons_succ]
                refine walkO_take (o := _) (v := ?_) (by rw [HOPS.out]; simp only [List.getElem?_toArray, List.getElem?_cons_succ, List.getElem?_cons_zero]; exact rfl) (Or.inl ⟨by rw [HOPS.out]; rfl, ?_⟩) ?_
                rotate_left
                · (intro w hSw; have hSx := HFC.out _ hSw; (try dsimp only at hSx); clear hSw; go_simp) <;> (with_reducible rfl)
                simp only [Act.put, List.setIfInBounds_toArray, List.set_cons_zero, List.set_cons_succ]
                refine walkO_take (o := _) (v := ?_) (by rw [HOPS.out]; simp only [List.getElem?_toArray, List.getElem?_cons_succ, List.getElem?_cons_zero]; exact rfl) (Or.inl ⟨by rw [HOPS.out]; rfl, ?_⟩) ?_
                rotate_left
                · (intro w hSw; have hSx := HFC.out _ hSw; (try dsimp only at hSx); clear hSw; go_simp) <;> (with_reducible rfl)
                simp only [Act.put, List.setIfInBounds_toArray, List.set_cons_zero, List.set_cons_succ]
                refine walkO_take (o := _) (v := ?_) (by rw [HOPS.out]; simp only [List.getElem?_toArray, List.getElem?_cons_succ, List.getElem?_cons_zero]; exact rfl) (Or.inl ⟨by rw [HOPS.out]; rfl, ?_⟩) ?_
                rotate_left
                · (intro w hSw; have hSx := HFC.out _ hSw; (try dsimp only at hSx); clear hSw; go_simp) <;> (with_reducible rfl)
                simp only [Act.put, List.setIfInBounds_toArray, List.set_cons_zero, List.set_cons_succ]
                refine walkO_take (o := _) (v := ?_) (by rw [HOPS.out]; simp only [List.getElem?_toArray, List.getElem?_cons_succ, List.getElem?_cons_zero]; exact rfl) (Or.inl ⟨by rw [HOPS.out]; rfl, ?_⟩) ?_
                rotate_left
                · (intro w hSw; have hSx := HFC.out _ hSw; (try dsimp only at hSx); clear hSw; go_simp) <;> (with_reducible rfl)
                simp only [Act.put, List.setIfInBounds_toArray, List.set_cons_zero, List.set_cons_succ]
                refine walkO_take (o := _) (v := ?_) (by rw [HOPS.out]; simp only [List.getElem?_toArray, List.getElem?_cons_succ, List.getElem?_cons_zero]; exact rfl) (Or.inl ⟨by rw [HOPS.out]; rfl, ?_⟩) ?_
                rotate_left
                · (intro w hSw; have hSx := HFC.out _ hSw; (try dsimp only at hSx); clear hSw; go_simp) <;> (with_reducible rfl)
                simp only [Act.put, List.setIfInBounds_toArray, List.set_cons_zero, List.set_cons_succ]
                refine walkO_take (o := _) (v := ?_) (by rw [HOPS.out]; simp only [List.getElem?_toArray, List.getElem?_cons_succ, List.getElem?_cons_zero]; exact rfl) (Or.inl ⟨by rw [HOPS.out]; rfl, ?_⟩) ?_
                rotate_left
                · (intro w hSw; have hSx := HFC.out _ hSw; (try dsimp only at hSx); clear hSw; go_simp) <;> (with_reducible rfl)
                simp only [Act.put, List.setIfInBounds_toArray, List.set_cons_zero, List.set_cons_succ]
                refine walkO_take (o := _) (v := ?_) (by rw [HOPS.out]; simp only [List.getElem?_toArray, List.getElem?_cons_succ, List.getElem?_cons_zero]; exact rfl) (Or.inl ⟨by rw [HOPS.out]; rfl, ?_⟩) ?_
                rotate_left
                · (intro w hSw; have hSx := HFC.out _ hSw; (try dsimp only at hSx); clear hSw; go_simp) <;> (with_reducible rfl)
                simp only [Act.put, List.setIfInBounds_toArray, List.set_cons_zero, List.set_cons_succ]
                refine walkO_take (o := _) (v := undef) (by rw [HOPS.out]; simp only [List.getElem?_toArray, List.getElem?_cons_succ, List.getElem?_cons_zero]; exact rfl) (Or.inr ⟨by rw [HOPS.out]; rfl, rfl⟩) ?_
                simp only [Act.put, List.setIfInBounds_toArray, List.set_cons_zero, List.set_cons_succ]
                refine walkO_take (o := _) (v := undef) (by rw [HOPS.out]; simp only [List.getElem?_toArray, List.getElem?_cons_succ, List.getElem?_cons_zero]; exact rfl) (Or.inr ⟨by rw [HOPS.out]; rfl, rfl⟩) ?_
                simp only [Act.put, List.setIfInBounds_toArray, List.set_cons_zero, List.set_cons_succ]
                refine walkO_take (o := _) (v := undef) (by rw [HOPS.out]; simp only [List.getElem?_toArray, List.getElem?_cons_succ, List.getElem?_cons_zero]; exact rfl) (Or.inr ⟨by rw [HOPS.out]; rfl, rfl⟩) ?_
                simp only [Act.put, List.setIfInBounds_toArray, List.set_cons_zero, List.set_cons_succ]
                refine walkO_take (o := _) (v := undef) (by rw [HOPS.out]; simp only [List.getElem?_toArray, List.getElem?_cons_succ, List.getElem?_cons_zero]; exact rfl) (Or.inr ⟨by rw [HOPS.out]; rfl, rfl⟩) ?_
                simp only [Act.put, List.setIfInBounds_toArray, List.set_cons_zero, List.set_cons_succ]
                refine walkO_take (o := _) (v := undef) (by rw [HOPS.out]; simp only [List.getElem?_toArray, List.getElem?_cons_succ, List.getElem?_cons_zero]; exact rfl) (Or.inr ⟨by rw [HOPS.out]; rfl, rfl⟩) ?_
                simp only [Act.put, List.setIfInBounds_toArray, List.set_cons_zero, List.set_cons_succ]
                refine walkO_take (o := _) (v := ?_) (by rw [HOPS.out]; simp only [List.getElem?_toArray, List.getElem?_cons_succ, List.getElem?_cons_zero]; exact rfl) (Or.inl ⟨by rw [HOPS.out]; rfl, ?_⟩) ?_
                rotate_left
                · (intro w hSw; have hSx := HFC.out _ hSw; (try dsimp only at hSx); clear hSw; go_simp) <;> (with_reducible rfl)
                simp only [Act.put, List.setIfInBounds_toArray, List.set_cons_zero, List.set_cons_succ]
                refine walkO_take (o := _) (v := ?_) (by rw [HOPS.out]; simp only [List.getElem?_toArray, List.getElem?_cons_succ, List.getElem?_cons_zero]; exact rfl) (Or.inl ⟨by rw [HOPS.out]; rfl, ?_⟩) ?_
                rotate_left
                · (intro w hSw; have hSx := HFC.out _ hSw; (try dsimp only at hSx); clear hSw; go_simp) <;> (with_reducible rfl)
                simp only [Act.put, List.setIfInBounds_toArray, List.set_cons_zero, List.set_cons_succ]
                refine walkO_take (o := _) (v := ?_) (by rw [HOPS.out]; simp only [List.getElem?_toArray, List.getElem?_cons_succ, List.getElem?_cons_zero]; exact rfl) (Or.inl ⟨by rw [HOPS.out]; rfl, ?_⟩) ?_
                rotate_left
                · (intro w hSw; have hSx := HFC.out _ hSw; (try dsimp only at hSx); clear hSw; go_simp) <;> (with_reducible rfl)
                simp only [Act.put, List.setIfInBounds_toArray, List.set_cons_zero, List.set_cons_succ]
                refine walkO_take (o := _) (v := ?_) (by rw [HOPS.out]; simp only [List.getElem?_toArray, List.getElem?_cons_succ, List.getElem?_cons_zero]; exact rfl) (Or.inl ⟨rfl, ?_⟩) ?_
                rotate_left
                · (intro w hSw; have hSx := HFC.out _ hSw; (try dsimp only at hSx); clear hSw; go_simp) <;> (with_reducible rfl)
                simp only [Act.put, List.setIfInBounds_toArray, List.set_cons_zero, List.set_cons_succ]
                refine walkO_done ?_
                clear HOPS OPS
                have g6 := gb.out.then0 f6
                have a6 := ab2.out.keep f6 gb.out.size (by simp)
                have s6 := Lib.hid (HB.out.keep0 f6)
                go_wp2_with fail
                go_roundw
                case rel => exact ⟨k + 1, t2, I2, O2, true, by omega, by go_num, rfl, HI2, HL2, s6, g6, a6⟩
                case measure => simp [intOf]; omega
              · as_aux_lemma =>
                have hle : ((I2.length : Int) != O2.length) = false := by rw [HFL.out rfl]; simp
                have hle2 : (I2.length != O2.length) = false := by rw [HFL.out rfl]; simp
                refine walkO_take (o := _) (v := ?_) (by rw [HOPS.out]; simp only [List.getElem?_toArray, List.getElem?_cons_succ, List.getElem?_cons_zero]; exact rfl) (Or.inl ⟨by rw [HOPS.out]; rfl, ?_⟩) ?_
                rotate_left
                · (intro w hSw; have hSx := HFC.out _ hSw; (try dsimp only at hSx); clear hSw; go_simp) <;> (with_reducible rfl)
                simp only [Act.put, List.setIfInBounds_toArray, List.set_cons_zero, List.set_cons_succ]
                refine walkO_take (o := _) (v := ?_) (by rw [HOPS.out]; simp only [List.getElem?_toArray, List.getElem?_cons_succ, List.getElem?_cons_zero]; exact rfl) (Or.inl ⟨rfl, ?_⟩) ?_
                rotate_left
                · (intro w hSw; have hSx := HFC.out _ hSw; (try dsimp only at hSx); clear hSw; go_simp) <;> (with_reducible rfl)
                simp only [Act.put, List.setIfInBounds_toArray, List.set_cons_zero, List.set_cons_succ]
                refine walkO_take (o := _) (v := ?_) (by rw [HOPS.out]; simp only [List.getElem?_toArray, List.getElem?_cons_succ, List.getElem?_cons_zero]; exact rfl) (Or.inl ⟨rfl, ?_⟩) ?_
                rotate_left
                · (intro w hSw; have hSx := HFC.out _ hSw; (try dsimp only at hSx); clear hSw; go_simp) <;> (with_reducible rfl)
                simp only [Act.put, List.setIfInBounds_toArray, List.set_cons_zero, List.set_cons_succ]
                refine walkO_take (o := _) (v := ?_) (by rw [HOPS.out]; simp only [List.getElem?_toArray, List.getElem?_cons_succ, List.getElem?_cons_zero]; exact rfl) (Or.inl ⟨by rw [HOPS.out]; rfl, ?_⟩) ?_
                rotate_left
                · (intro w hSw; have hSx := HFC.out _ hSw; (try dsimp only at hSx); clear hSw; go_simp) <;> (with_reducible rfl)
                simp only [Act.put, List.setIfInBounds_toArray, List.set_cons_zero, List.set_cons_succ]
                refine walkO_take (o := _) (v := ?_) (by rw [HOPS.out]; simp only [List.getElem?_toArray, List.getElem?_cons_succ, List.getElem?_cons_zero]; exact rfl) (Or.inl ⟨by rw [HOPS.out]; rfl, ?_⟩) ?_
                rotate_left
                · (intro w hSw; have hSx := HFC.out _ hSw; (try dsimp only at hSx); clear hSw; go_simp) <;> (with_reducible rfl)
                simp only [Act.put, List.setIfInBounds_toArray, List.set_cons_zero, List.set_cons_succ]
                refine walkO_take (o := _) (v := ?_) (by rw [HOPS.out]; simp only [List.getElem?_toArray, List.getElem?_cons_succ, List.getElem?_cons_zero]; exact rfl) (Or.inl ⟨by rw [HOPS.out]; rfl, ?_⟩) ?_
                rotate_left
                · (intro w hSw; have hSx := HFC.out _ hSw; (try dsimp only at hSx); clear hSw; go_simp) <;> (with_reducible rfl)
                simp only [Act.put, List.setIfInBounds_toArray, List.set_cons_zero, List.set_cons_succ]
                refine walkO_take (o := _) (v := ?_) (by rw [HOPS.out]; simp only [List.getElem?_toArray, List.getElem?_cons_succ, List.getElem?_cons_zero]; exact rfl) (Or.inl ⟨by rw [HOPS.out]; rfl, ?_⟩) ?_
                rotate_left
                · (intro w hSw; have hSx := HFC.out _ hSw; (try dsimp only at hSx); clear hSw; go_simp) <;> (with_reducible rfl)
                simp only [Act.put, List.setIfInBounds_toArray, List.set_cons_zero, List.set_cons_succ]
                refine walkO_take (o := _) (v := ?_) (by rw [HOPS.out]; simp only [List.getElem?_toArray, List.getElem?_cons_succ, List.getElem?_cons_zero]; exact rfl) (Or.inl ⟨by rw [HOPS.out]; rfl, ?_⟩) ?_
                rotate_left
                · (intro w hSw; have hSx := HFC.out _ hSw; (try dsimp only at hSx); clear hSw; go_simp) <;> (with_reducible rfl)
                simp only [Act.put, List.setIfInBounds_toArray, List.set_cons_zero, List.set_cons_succ]
                refine walkO_take (o := _) (v := ?_) (by rw [HOPS.out]; simp only [List.getElem?_toArray, List.getElem?_cons_succ, List.getElem?_cons_zero]; exact rfl) (Or.inl ⟨by rw [HOPS.out]; rfl, ?_⟩) ?_
                rotate_left
                · (intro w hSw; have hSx := HFC.out _ hSw; (try dsimp only at hSx); clear hSw; go_simp) <;> (with_reducible rfl)
                simp only [Act.put, List.setIfInBounds_toArray, List.set_cons_zero, List.set_cons_succ]
                refine walkO_take (o := _) (v := ?_) (by rw [HOPS.out]; simp only [List.getElem?_toArray, List.getElem?_cons_succ, List.getElem?_cons_zero]; exact rfl) (Or.inl ⟨by rw [HOPS.out]; rfl, ?_⟩) ?_
                rotate_left
                · (intro w hSw; have hSx := HFC.out _ hSw; (try dsimp only at hSx); clear hSw; go_simp) <;> (with_reducible rfl)
                simp only [Act.put, List.setIfInBounds_toArray, List.set_cons_zero, List.set_cons_succ]
                refine walkO_take (o := _) (v := ?_) (by rw [HOPS.out]; simp only [List.getElem?_toArray, List.getElem?_cons_succ, List.getElem?_cons_zero]; exact rfl) (Or.inl ⟨by rw [HOPS.out]; rfl, ?_⟩) ?_
                rotate_left
                · (intro w hSw; have hSx := HFC.out _ hSw; (try dsimp only at hSx); clear hSw; go_simp) <;> (with_reducible rfl)
                simp only [Act.put, List.setIfInBounds_toArray, List.set_cons_zero, List.set_cons_succ]
                refine walkO_take (o := _) (v := ?_) (by rw [HOPS.out]; simp only [List.getElem?_toArray, List.getElem?_cons_succ, List.getElem?_cons_zero]; exact rfl) (Or.inl ⟨by rw [HOPS.out]; rfl, ?_⟩) ?_
                rotate_left
                · (intro w hSw; have hSx := HFC.out _ hSw; (try dsimp only at hSx); clear hSw; go_simp) <;> (with_reducible rfl)
                simp only [Act.put, List.setIfInBounds_toArray, List.set_cons_zero, List.set_cons_succ]
                refine walkO_take (o := _) (v := ?_) (by rw [HOPS.out]; simp only [List.getElem?_toArray, List.getElem?_cons_succ, List.getElem?_cons_zero]; exact rfl) (Or.inl ⟨by rw [HOPS.out]; rfl, ?_⟩) ?_
                rotate_left
                · (intro w hSw; have hSx := HFC.out _ hSw; (try dsimp only at hSx); clear hSw; go_simp) <;> (with_reducible rfl)
                simp only [Act.put, List.setIfInBounds_toArray, List.set_cons_zero, List.set_cons_succ]
                refine walkO_take (o := _) (v := ?_) (by rw [HOPS.out]; simp only [List.getElem?_toArray, List.getElem?_cons_succ, List.getElem?_cons_zero]; exact rfl) (Or.inl ⟨by rw [HOPS.out]; rfl, ?_⟩) ?_
                rotate_left
                · (intro w hSw; have hSx := HFC.out _ hSw; (try dsimp only at hSx); clear hSw; go_simp) <;> (with_reducible rfl)
                simp only [Act.put, List.setIfInBounds_toArray, List.set_cons_zero, List.set_cons_succ]
                refine walkO_take (o := _) (v := ?_) (by rw [HOPS.out]; simp only [List.getElem?_toArray, List.getElem?_cons_succ, List.getElem?_cons_zero]; exact rfl) (Or.inl ⟨by rw [HOPS.out]; rfl, ?_⟩) ?_
                rotate_left
                · (intro w hSw; have hSx := HFC.out _ hSw; (try dsimp only at hSx); clear hSw; go_simp) <;> (with_reducible rfl)
                simp only [Act.put, List.setIfInBounds_toArray, List.set_cons_zero, List.set_cons_succ]
                refine walkO_take (o := _) (v := ?_) (by rw [HOPS.out]; simp only [List.getElem?_toArray, List.getElem?_cons_succ, List.getElem?_cons_zero]; exact rfl) (Or.inl ⟨by rw [HOPS.out]; rfl, ?_⟩) ?_
                rotate_left
                · (intro w hSw; have hSx := HFC.out _ hSw; (try dsimp only at hSx); clear hSw; go_simp) <;> (with_reducible rfl)
                simp only [Act.put, List.setIfInBounds_toArray, List.set_cons_zero, List.set_cons_succ]
                refine walkO_take (o := _) (v := ?_) (by rw [HOPS.out]; simp only [List.getElem?_toArray, List.getElem?_cons_succ, List.getElem?_cons_zero]; exact rfl) (Or.inl ⟨by rw [HOPS.out]; rfl, ?_⟩) ?_
                rotate_left
                · (intro w hSw; have hSx := HFC.out _ hSw; (try dsimp only at hSx); clear hSw; go_simp) <;> (with_reducible rfl)
                simp only [Act.put, List.setIfInBounds_toArray, List.set_cons_zero, List.set_cons_succ]
                refine walkO_take (o := _) (v := ?_) (by rw [HOPS.out]; simp only [List.getElem?_toArray, List.getElem?_cons_succ, List.getElem?_cons_zero]; exact rfl) (Or.inl ⟨by rw [HOPS.out]; rfl, ?_⟩) ?_
                rotate_left
                · (intro w hSw; have hSx := HFC.out _ hSw; (try dsimp only at hSx); clear hSw; go_simp) <;> (with_reducible rfl)
                simp only [Act.put, List.setIfInBounds_toArray, List.set_cons_zero, List.set_cons_succ]
                refine walkO_take (o := _) (v := ?_) (by rw [HOPS.out]; simp only [List.getElem?_toArray, List.getElem?_cons_succ, List.getElem?_cons_zero]; exact rfl) (Or.inl ⟨by rw [HOPS.out]; rfl, ?_⟩) ?_
                rotate_left
                · (intro w hSw; have hSx := HFC.out _ hSw; (try dsimp only at hSx); clear hSw; go_simp) <;> (with_reducible rfl)
                simp only [Act.put, List.setIfInBounds_toArray, List.set_cons_zero, List.set_cons_succ]
                refine walkO_take (o := _) (v := ?_) (by rw [HOPS.out]; simp only [List.getElem?_toArray, List.getElem?_cons_succ, List.getElem?_cons_zero]; exact rfl) (Or.inl ⟨by rw [HOPS.out]; rfl, ?_⟩) ?_
                rotate_left
                · (intro w hSw; have hSx := HFC.out _ hSw; (try dsimp only at hSx); clear hSw; go_simp) <;> (with_reducible rfl)
                simp only [Act.put, List.setIfInBounds_toArray, List.set_cons_zero, List.set_cons_succ]
                refine walkO_take (o := _) (v := ?_) (by rw [HOPS.out]; simp only [List.getElem?_toArray, List.getElem?_cons_succ, List.getElem?_cons_zero]; exact rfl) (Or.inl ⟨by rw [HOPS.out]; rfl, ?_⟩) ?_
                rotate_left
                · (intro w hSw; have hSx := HFC.out _ hSw; (try dsimp only at hSx); clear hSw; go_simp) <;> (with_reducible rfl)
                simp only [Act.put, List.setIfInBounds_toArray, List.set_cons_zero, List.set_cons_succ]
                refine walkO_take (o := _) (v := ?_) (by rw [HOPS.out]; simp only [List.getElem?_toArray, List.getElem?_cons_succ, List.getElem?_cons_zero]; exact rfl) (Or.inl ⟨by rw [HOPS.out]; rfl, ?_⟩) ?_
                rotate_left
                · (intro w hSw; have hSx := HFC.out _ hSw; (try dsimp only at hSx); clear hSw; go_simp) <;> (with_reducible rfl)
                simp only [Act.put, List.setIfInBounds_toArray, List.set_cons_zero, List.set_cons_succ]
                refine walkO_take (o := _) (v := ?_) (by rw [HOPS.out]; simp only [List.getElem?_toArray, List.getElem?_cons_succ, List.getElem?_cons_zero]; exact rfl) (Or.inl ⟨by rw [HOPS.out]; rfl, ?_⟩) ?_
                rotate_left
                · (intro w hSw; have hSx := HFC.out _ hSw; (try dsimp only at hSx); clear hSw; go_simp) <;> (with_reducible rfl)
                simp only [Act.put, List.setIfInBounds_toArray, List.set_cons_zero, List.set_cons_succ]
                refine walkO_take (o := _) (v := ?_) (by rw [HOPS.out]; simp only [List.getElem?_toArray, List.getElem?_cons_succ, List.getElem?_cons_zero]; exact rfl) (Or.inl ⟨by rw [HOPS.out]; rfl, ?_⟩) ?_
                rotate_left
                · (intro w hSw; have hSx := HFC.out _ hSw; (try dsimp only at hSx); clear hSw; go_simp) <;> (with_reducible rfl)
                simp only [Act.put, List.setIfInBounds_toArray, List.set_cons_zero, List.set_cons_succ]
                refine walkO_take (o := _) (v := ?_) (by rw [HOPS.out]; simp only [List.getElem?_toArray, List.getElem?_cons_succ, List.getElem?_cons_zero]; exact rfl) (Or.inl ⟨rfl, ?_⟩) ?_
                rotate_left
                · (intro w hSw; have hSx := HFC.out _ hSw; (try dsimp only at hSx); clear hSw; go_simp) <;> (with_reducible rfl)
                simp only [Act.put, List.setIfInBounds_toArray, List.set_cons_zero, List.set_cons_succ]
                refine walkO_done ?_
                clear HOPS OPS
                have g6 := gb.out.then0 f6
                have a6 := ab2.out.keep f6 gb.out.size (by simp)
                have s6 := Lib.hid (HB.out.keep0 f6)
                go_wp2_with fail
                go_roundw
                case rel => exact ⟨k + 1, t2, I2, O2, false, by omega, by go_num, rfl, HI2, HL2, s6, g6, a6⟩
                case measure => simp [intOf]; omega
            · as_aux_lemma =>
              have hk4' : (kd == 4) = false := by simpa using hk4
              clear hk4
              refine walkO_take (o := _) (v := ?_) (by rw [HOPS.out]; simp only [List.getElem?_toArray, List.getElem?_cons_succ, List.getElem?_cons_zero]; exact rfl) (Or.inl ⟨by rw [HOPS.out]; rfl, ?_⟩) ?_
              rotate_left
              · (intro w hSw; have hSx := HFC.out _ hSw; (try dsimp only at hSx); clear hSw; go_simp) <;> (with_reducible rfl)
              simp only [Act.put, List.setIfInBounds_toArray, List.set_cons_zero, List.set_cons_succ]
              refine walkO_take (o := _) (v := ?_) (by rw [HOPS.out]; simp only [List.getElem?_toArray, List.getElem?_cons_succ, List.getElem?_cons_zero]; exact rfl) (Or.inl ⟨rfl, ?_⟩) ?_
              rotate_left
              · (intro w hSw; have hSx := HFC.out _ hSw; (try dsimp only at hSx); clear hSw; go_simp) <;> (with_reducible rfl)
              simp only [Act.put, List.setIfInBounds_toArray, List.set_cons_zero, List.set_cons_succ]
              refine walkO_take (o := _) (v := ?_) (by rw [HOPS.out]; simp only [List.getElem?_toArray, List.getElem?_cons_succ, List.getElem?_cons_zero]; exact rfl) (Or.inl ⟨rfl, ?_⟩) ?_
              rotate_left
              · (intro w hSw; have hSx := HFC.out _ hSw; (try dsimp only at hSx); clear hSw; go_simp) <;> (with_reducible rfl)
              simp only [Act.put, List.setIfInBounds_toArray, List.set_cons_zero, List.set_cons_succ]
              refine walkO_take (o := _) (v := ?_) (by rw [HOPS.out]; simp only [List.getElem?_toArray, List.getElem?_cons_succ, List.getElem?_cons_zero]; exact rfl) (Or.inl ⟨by rw [HOPS.out]; rfl, ?_⟩) ?_
              rotate_left
              · (intro w hSw; have hSx := HFC.out _ hSw; (try dsimp only at hSx); clear hSw; go_simp) <;> (with_reducible rfl)
              simp only [Act.put, List.setIfInBounds_toArray, List.set_cons_zero, List.set_cons_succ]
              refine walkO_take (o := _) (v := ?_) (by rw [HOPS.out]; simp only [List.getElem?_toArray, List.getElem?_cons_succ, List.getElem?_cons_zero]; exact rfl) (Or.inl ⟨by rw [HOPS.out]; rfl, ?_⟩) ?_
              rotate_left
              · (intro w hSw; have hSx := HFC.out _ hSw; (try dsimp only at hSx); clear hSw; go_simp) <;> (with_reducible rfl)
              simp only [Act.put, List.setIfInBounds_toArray, List.set_cons_zero, List.set_cons_succ]
              refine walkO_take (o := _) (v := ?_) (by rw [HOPS.out]; simp only [List.getElem?_toArray, List.getElem?_cons_succ, List.getElem?_cons_zero]; exact rfl) (Or.inl ⟨by rw [HOPS.out]; rfl, ?_⟩) ?_
              rotate_left
              · (intro w hSw; have hSx := HFC.out _ hSw; (try dsimp only at hSx); clear hSw; go_simp) <;> (with_reducible rfl)
              simp only [Act.put, List.setIfInBounds_toArray, List.set_cons_zero, List.set_cons_succ]
              refine walkO_take (o := _) (v := ?_) (by rw [HOPS.out]; simp only [List.getElem?_toArray, List.getElem?_cons_succ, List.getElem?_cons_zero]; exact rfl) (Or.inl ⟨by rw [HOPS.out]; rfl, ?_⟩) ?_
              rotate_left
              · (intro w hSw; have hSx := HFC.out _ hSw; (try dsimp only at hSx); clear hSw; go_simp) <;> (with_reducible rfl)
              simp only [Act.put, List.setIfInBounds_toArray, List.set_cons_zero, List.set_cons_succ]
              refine walkO_take (o := _) (v := undef) (by rw [HOPS.out]; simp only [List.getElem?_toArray, List.getElem?_cons_succ, List.getElem?_cons_zero]; exact rfl) (Or.inr ⟨by rw [HOPS.out]; rfl, rfl⟩) ?_
              simp only [Act.put, List.setIfInBounds_toArray, List.set_cons_zero, List.set_cons_succ]
              refine walkO_take (o := _) (v := undef) (by rw [HOPS.out]; simp only [List.getElem?_toArray, List.getElem?_cons_succ, List.getElem?_cons_zero]; exact rfl) (Or.inr ⟨by rw [HOPS.out]; rfl, rfl⟩) ?_
              simp only [Act.put, List.setIfInBounds_toArray, List.set_cons_zero, List.set_cons_succ]
              refine walkO_take (o := _) (v := undef) (by rw [HOPS.out]; simp only [List.getElem?_toArray, List.getElem?_cons_succ, List.getElem?_cons_zero]; exact rfl) (Or.inr ⟨by rw [HOPS.out]; rfl, rfl⟩) ?_
              simp only [Act.put, List.setIfInBounds_toArray, List.set_cons_zero, List.set_cons_succ]
              refine walkO_take (o := _) (v := undef) (by rw [HOPS.out]; simp only [List.getElem?_toArray, List.getElem?_cons_succ, List.getElem?_cons_zero]; exact rfl) (Or.inr ⟨by rw [HOPS.out]; rfl, rfl⟩) ?_
              simp only [Act.put, List.setIfInBounds_toArray, List.set_cons_zero, List.set_cons_succ]
              refine walkO_take (o := _) (v := undef) (by rw [HOPS.out]; simp only [List.getElem?_toArray, List.getElem?_cons_succ, List.getElem?_cons_zero]; exact rfl) (Or.inr ⟨by rw [HOPS.out]; rfl, rfl⟩) ?_
              simp only [Act.put, List.setIfInBounds_toArray, List.set_cons_zero, List.set_cons_succ]
              refine walkO_take (o := _) (v := undef) (by rw [HOPS.out]; simp only [List.getElem?_toArray, List.getElem?_cons_succ, List.getElem?_cons_zero]; exact rfl) (Or.inr ⟨by rw [HOPS.out]; rfl, rfl⟩) ?_
              simp only [Act.put, List.setIfInBounds_toArray, List.set_cons_zero, List.set_cons_succ]
              refine walkO_take (o := _) (v := undef) (by rw [HOPS.out]; simp only [List.getElem?_toArray, List.getElem?_cons_succ, List.getElem?_cons_zero]; exact rfl) (Or.inr ⟨by rw [HOPS.out]; rfl, rfl⟩) ?_
              simp only [Act.put, List.setIfInBounds_toArray, List.set_cons_zero, List.set_cons_succ]
              refine walkO_take (o := _) (v := undef) (by rw [HOPS.out]; simp only [List.getElem?_toArray, List.getElem?_cons_succ, List.getElem?_cons_zero]; exact rfl) (Or.inr ⟨by rw [HOPS.out]; rfl, rfl⟩) ?_
              simp only [Act.put, List.setIfInBounds_toArray, List.set_cons_zero, List.set_cons_succ]
              refine walkO_take (o := _) (v := undef) (by rw [HOPS.out]; simp only [List.getElem?_toArray, List.getElem?_cons_succ, List.getElem?_cons_zero]; exact rfl) (Or.inr ⟨by rw [HOPS.out]; rfl, rfl⟩) ?_
              simp only [Act.put, List.setIfInBounds_toArray, List.set_cons_zero, List.set_cons_succ]
              refine walkO_take (o := _) (v := undef) (by rw [HOPS.out]; simp only [List.getElem?_toArray, List.getElem?_cons_succ, List.getElem?_cons_zero]; exact rfl) (Or.inr ⟨by rw [HOPS.out]; rfl, rfl⟩) ?_
              simp only [Act.put, List.setIfInBounds_toArray, List.set_cons_zero, List.set_cons_succ]
              refine walkO_take (o := _) (v := undef) (by rw [HOPS.out]; simp only [List.getElem?_toArray, List.getElem?_cons_succ, List.getElem?_cons_zero]; exact rfl) (Or.inr ⟨by rw [HOPS.out]; rfl, rfl⟩) ?_
              simp only [Act.put, List.setIfInBounds_toArray, List.set_cons_zero, List.set_cons_succ]
              refine walkO_take (o := _) (v := undef) (by rw [HOPS.out]; simp only [List.getElem?_toArray, List.getElem?_cons_succ, List.getElem?_cons_zero]; exact rfl) (Or.inr ⟨by rw [HOPS.out]; rfl, rfl⟩) ?_
              simp only [Act.put, List.setIfInBounds_toArray, List.set_cons_zero, List.set_cons_succ]
              refine walkO_take (o := _) (v := undef) (by rw [HOPS.out]; simp only [List.getElem?_toArray, List.getElem?_cons_succ, List.getElem?_cons_zero]; exact rfl) (Or.inr ⟨by rw [HOPS.out]; rfl, rfl⟩) ?_
              simp only [Act.put, List.setIfInBounds_toArray, List.set_cons_zero, List.set_cons_succ]
              refine walkO_take (o := _) (v := undef) (by rw [HOPS.out]; simp only [List.getElem?_toArray, List.getElem?_cons_succ, List.getElem?_cons_zero]; exact rfl) (Or.inr ⟨by rw [HOPS.out]; rfl, rfl⟩) ?_
              simp only [Act.put, List.setIfInBounds_toArray, List.set_cons_zero, List.set_cons_succ]
              refine walkO_take (o := _) (v := undef) (by rw [HOPS.out]; simp only [List.getElem?_toArray, List.getElem?_cons_succ, List.getElem?_cons_zero]; exact rfl) (Or.inr ⟨by rw [HOPS.out]; rfl, rfl⟩) ?_
              simp only [Act.put, List.setIfInBounds_toArray, List.set_cons_zero, List.set_cons_succ]
              refine walkO_take (o := _) (v := undef) (by rw [HOPS.out]; simp only [List.getElem?_toArray, List.getElem?_cons_succ, List.getElem?_cons_zero]; exact rfl) (Or.inr ⟨by rw [HOPS.out]; rfl, rfl⟩) ?_
              simp only [Act.put, List.setIfInBounds_toArray, List.set_cons_zero, List.set_cons_succ]
              refine walkO_take (o := _) (v := ?_) (by rw [HOPS.out]; simp only [List.getElem?_toArray, List.getElem?_cons_succ, List.getElem?_cons_zero]; exact rfl) (Or.inl ⟨by rw [HOPS.out]; rfl, ?_⟩) ?_
              rotate_left
              · (intro w hSw; have hSx := HFC.out _ hSw; (try dsimp only at hSx); clear hSw; go_simp) <;> (with_reducible rfl)
              simp only [Act.put, List.setIfInBounds_toArray, List.set_cons_zero, List.set_cons_succ]
              refine walkO_take (o := _) (v := ?_) (by rw [HOPS.out]; simp only [List.getElem?_toArray, List.getElem?_cons_succ, List.getElem?_cons_zero]; exact rfl) (Or.inl ⟨rfl, ?_⟩) ?_
              rotate_left
              · (intro w hSw; have hSx := HFC.out _ hSw; (try dsimp only at hSx); clear hSw; go_simp) <;> (with_reducible rfl)
              simp only [Act.put, List.setIfInBounds_toArray, List.set_cons_zero, List.set_cons_succ]
              refine walkO_done ?_
              clear HOPS OPS
              have g6 := gb.out.then0 f6
              have a6 := ab2.out.keep f6 gb.out.size (by simp)
              have s6 := Lib.hid (HB.out.keep0 f6)
              go_wp2_with fail
              go_roundw
              case rel => exact ⟨k + 1, t2, I2, O2, fl2, by omega, by go_num, rfl, HI2, HL2, s6, g6, a6⟩
              case measure => simp [intOf]; omega
          · as_aux_lemma =>
            have l2 : decide (lm < (I2.length : Int)) = false := by simp; omega
            have l3 : decide (0 ≤ lm) = true := by simp; exact l0
            refine walkO_take (o := _) (v := ?_) (by rw [HOPS.out]; simp only [List.getElem?_toArray, List.getElem?_cons_succ, List.getElem?_cons_zero]; exact rfl) (Or.inl ⟨by rw [HOPS.out]; rfl, ?_⟩) ?_
            rotate_left
            · (intro w hSw; have hSx := HFB.out _ hSw; (try dsimp only at hSx); clear hSw; go_simp) <;> (with_reducible rfl)
            simp only [Act.put, List.setIfInBounds_toArray, List.set_cons_zero, List.set_cons_succ]
            refine walkO_take (o := _) (v := ?_) (by rw [HOPS.out]; simp only [List.getElem?_toArray, List.getElem?_cons_succ, List.getElem?_cons_zero]; exact rfl) (Or.inl ⟨by rw [HOPS.out]; rfl, ?_⟩) ?_
            rotate_left
            · (intro w hSw; have hSx := HFB.out _ hSw; (try dsimp only at hSx); clear hSw; go_simp) <;> (with_reducible rfl)
            simp only [Act.put, List.setIfInBounds_toArray, List.set_cons_zero, List.set_cons_succ]
            refine walkO_take (o := _) (v := ?_) (by rw [HOPS.out]; simp only [List.getElem?_toArray, List.getElem?_cons_succ, List.getElem?_cons_zero]; exact rfl) (Or.inl ⟨by rw [HOPS.out]; rfl, ?_⟩) ?_
            rotate_left
            · (intro w hSw; have hSx := HFB.out _ hSw; (try dsimp only at hSx); clear hSw; go_simp) <;> (with_reducible rfl)
            simp only [Act.put, List.setIfInBounds_toArray, List.set_cons_zero, List.set_cons_succ]
            refine walkO_take (o := _) (v := ?_) (by rw [HOPS.out]; simp only [List.getElem?_toArray, List.getElem?_cons_succ, List.getElem?_cons_zero]; exact rfl) (Or.inl ⟨by rw [HOPS.out]; rfl, ?_⟩) ?_
            rotate_left
            · (intro w hSw; have hSx := HFB.out _ hSw; (try dsimp only at hSx); clear hSw; go_simp) <;> (with_reducible rfl)
            simp only [Act.put, List.setIfInBounds_toArray, List.set_cons_zero, List.set_cons_succ]
            refine walkO_take (o := _) (v := ?_) (by rw [HOPS.out]; simp only [List.getElem?_toArray, List.getElem?_cons_succ, List.getElem?_cons_zero]; exact rfl) (Or.inl ⟨by rw [HOPS.out]; rfl, ?_⟩) ?_
            rotate_left
            · (intro w hSw; have hSx := HFB.out _ hSw; (try dsimp only at hSx); clear hSw; go_simp) <;> (with_reducible rfl)
            simp only [Act.put, List.setIfInBounds_toArray, List.set_cons_zero, List.set_cons_succ]
            refine walkO_take (o := _) (v := ?_) (by rw [HOPS.out]; simp only [List.getElem?_toArray, List.getElem?_cons_succ, List.getElem?_cons_zero]; exact rfl) (Or.inl ⟨by rw [HOPS.out]; rfl, ?_⟩) ?_
            rotate_left
            · (intro w hSw; have hSx := HFB.out _ hSw; (try dsimp only at hSx); clear hSw; go_simp) <;> (with_reducible rfl)
            simp only [Act.put, List.setIfInBounds_toArray, List.set_cons_zero, List.set_cons_succ]
            refine walkO_take (o := _) (v := ?_) (by rw [HOPS.out]; simp only [List.getElem?_toArray, List.getElem?_cons_succ, List.getElem?_cons_zero]; exact rfl) (Or.inl ⟨by rw [HOPS.out]; rfl, ?_⟩) ?_
            rotate_left
            · (intro w hSw; have hSx := HFB.out _ hSw; (try dsimp only at hSx); clear hSw; go_simp) <;> (with_reducible rfl)
            simp only [Act.put, List.setIfInBounds_toArray, List.set_cons_zero, List.set_cons_succ]
            refine walkO_take (o := _) (v := ?_) (by rw [HOPS.out]; simp only [List.getElem?_toArray, List.getElem?_cons_succ, List.getElem?_cons_zero]; exact rfl) (Or.inl ⟨by rw [HOPS.out]; rfl, ?_⟩) ?_
            rotate_left
            · (intro w hSw; have hSx := HFB.out _ hSw; (try dsimp only at hSx); clear hSw; go_simp) <;> (with_reducible rfl)
            simp only [Act.put, List.setIfInBounds_toArray, List.set_cons_zero, List.set_cons_succ]
            refine walkO_take (o := _) (v := ?_) (by rw [HOPS.out]; simp only [List.getElem?_toArray, List.getElem?_cons_succ, List.getElem?_cons_zero]; exact rfl) (Or.inl ⟨rfl, ?_⟩) ?_
            rotate_left
            · (intro w hSw; have hSx := HFB.out _ hSw; (try dsimp only at hSx); clear hSw; go_simp) <;> (with_reducible rfl)
            simp only [Act.put, List.setIfInBounds_toArray, List.set_cons_zero, List.set_cons_succ]
            refine walkO_take (o := _) (v := ?_) (by rw [HOPS.out]; simp only [List.getElem?_toArray, List.getElem?_cons_succ, List.getElem?_cons_zero]; exact rfl) (Or.inl ⟨rfl, ?_⟩) ?_
            rotate_left
            · (intro w hSw; have hSx := HFB.out _ hSw; (try dsimp only at hSx); clear hSw; go_simp) <;> (with_reducible rfl)
            simp only [Act.put, List.setIfInBounds_toArray, List.set_cons_zero, List.set_cons_succ]
            refine walkO_take (o := _) (v := ?_) (by rw [HOPS.out]; simp only [List.getElem?_toArray, List.getElem?_cons_succ, List.getElem?_cons_zero]; exact rfl) (Or.inl ⟨by rw [HOPS.out]; rfl, ?_⟩) ?_
            rotate_left
            · (intro w hSw; have hSx := HFB.out _ hSw; (try dsimp only at hSx); clear hSw; go_simp) <;> (with_reducible rfl)
            simp only [Act.put, List.setIfInBounds_toArray, List.set_cons_zero, List.set_cons_succ]
            refine walkO_take (o := _) (v := ?_) (by rw [HOPS.out]; simp only [List.getElem?_toArray, List.getElem?_cons_succ, List.getElem?_cons_zero]; exact rfl) (Or.inl ⟨by rw [HOPS.out]; rfl, ?_⟩) ?_
            rotate_left
            · (intro w hSw; have hSx := HFB.out _ hSw; (try dsimp only at hSx); clear hSw; go_simp) <;> (with_reducible rfl)
            simp only [Act.put, List.setIfInBounds_toArray, List.set_cons_zero, List.set_cons_succ]
            refine walkO_take (o := _) (v := ?_) (by rw [HOPS.out]; simp only [List.getElem?_toArray, List.getElem?_cons_succ, List.getElem?_cons_zero]; exact rfl) (Or.inl ⟨by rw [HOPS.out]; rfl, ?_⟩) ?_
            rotate_left
            · (intro w hSw; have hSx := HFB.out _ hSw; (try dsimp only at hSx); clear hSw; go_simp) <;> (with_reducible rfl)
            simp only [Act.put, List.setIfInBounds_toArray, List.set_cons_zero, List.set_cons_succ]
            refine walkO_take (o := _) (v := ?_) (by rw [HOPS.out]; simp only [List.getElem?_toArray, List.getElem?_cons_succ, List.getElem?_cons_zero]; exact rfl) (Or.inl ⟨by rw [HOPS.out]; rfl, ?_⟩) ?_
            rotate_left
            · (intro w hSw; have hSx := HFB.out _ hSw; (try dsimp only at hSx); clear hSw; go_simp) <;> (with_reducible rfl)
            simp only [Act.put, List.setIfInBounds_toArray, List.set_cons_zero, List.set_cons_succ]
            refine walkO_take (o := _) (v := ?_) (by rw [HOPS.out]; simp only [List.getElem?_toArray, List.getElem?_cons_succ, List.getElem?_cons_zero]; exact rfl) (Or.inl ⟨by rw [HOPS.out]; rfl, ?_⟩) ?_
            rotate_left
            · (intro w hSw; have hSx := HFB.out _ hSw; (try dsimp only at hSx); clear hSw; go_simp) <;> (with_reducible rfl)
            simp only [Act.put, List.setIfInBounds_toArray, List.set_cons_zero, List.set_cons_succ]
            refine walkO_call (o := _) (by rw [HOPS.out]; simp only [List.getElem?_toArray, List.getElem?_cons_succ, List.getElem?_cons_zero]; exact rfl) (fun K HK => ?_)
            refine step_call (by rw [HOPS.out]; rfl) 20 #[(.tmp 177), (.tmp 179), (.tmp 181)] #[27, 3, 3] rfl HEM.out #[.pointer (some ⟨b, 0, none⟩), .int .i64 I2.length, .int .i64 O2.length] (by simp [Act.eval]) (HMV.out _ f5) ?_
            rintro e w6 ⟨rfl, f6'⟩
            have f6 : Fr [] wb w6 := f5.then0 f6'
            have HFC := Lib.hid fun (w1 : World) (f : Fr [] w6 w1) => HBX.out _ (f6.then0 f)
            refine ⟨_, rfl, ?_⟩
            refine HK.out (fun w' => Fr [] w6 w') _ _ (fun _ h => f6'.then0 h) (Fr.refl _ _) ?_
            clear HK K
            simp only [Act.put, List.setIfInBounds_toArray, List.set_cons_zero, List.set_cons_succ]
            by_cases hk4 : kd = 4
            · subst hk4
              obtain ⟨hm, hfl⟩ := HD.out rfl
              subst hm
              have HFL := Lib.hid hfl
              clear hfl
              rcases (show fl2 = true ∨ fl2 = false by cases fl2 <;> simp) with rfl | rfl
              · as_aux_lemma =>
                refine walkO_take (o := _) (v := ?_) (by rw [HOPS.out]; simp only [List.getElem?_toArray, List.getElem?_cons_succ, List.getElem?_cons_zero]; exact rfl) (Or.inl ⟨by rw [HOPS.out]; rfl, ?_⟩) ?_
                rotate_left
                · (intro w hSw; have hSx := HFC.out _ hSw; (try dsimp only at hSx); clear hSw; go_simp) <;> (with_reducible rfl)
                simp only [Act.put, List.setIfInBounds_toArray, List.set_cons_zero, List.set_cons_succ]
                refine walkO_take (o := _) (v := ?_) (by rw [HOPS.out]; simp only [List.getElem?_toArray, List.getElem?_cons_succ, List.getElem?_cons_zero]; exact rfl) (Or.inl ⟨rfl, ?_⟩) ?_
                rotate_left
                · (intro w hSw; have hSx := HFC.out _ hSw; (try dsimp only at hSx); clear hSw; go_simp) <;> (with_reducible rfl)
                simp only [Act.put, List.setIfInBounds_toArray, List.set_cons_zero, List.set_cons_succ]
                refine walkO_take (o := _) (v := ?_) (by rw [HOPS.out]; simp only [List.getElem?_toArray, List.getElem?_cons_succ, List.getElem?_cons_zero]; exact rfl) (Or.inl ⟨rfl, ?_⟩) ?_
                rotate_left
                · (intro w hSw; have hSx := HFC.out _ hSw; (try dsimp only at hSx); clear hSw; go_simp) <;> (with_reducible rfl)
                simp only [Act.put, List.setIfInBounds_toArray, List.set_cons_zero, List.set_cons_succ]
                refine walkO_take (o := _) (v := ?_) (by rw [HOPS.out]; simp only [List.getElem?_toArray, List.getElem?_cons_succ, List.getElem?_cons_zero]; exact rfl) (Or.inl ⟨by rw [HOPS.out]; rfl, ?_⟩) ?_
                rotate_left
                · (intro w hSw; have hSx := HFC.out _ hSw; (try dsimp only at hSx); clear hSw; go_simp) <;> (with_reducible rfl)
                simp only [Act.put, List.setIfInBounds_toArray, List.set_cons_zero, List.set_cons_succ]
                refine walkO_take (o := _) (v := ?_) (by rw [HOPS.out]; simp only [List.getElem?_toArray, List.getElem?_cons_succ, List.getElem?_cons_zero]; exact rfl) (Or.inl ⟨by rw [HOPS.out]; rfl, ?_⟩) ?_
                rotate_left
                · (intro w hSw; have hSx := HFC.out _ hSw; (try dsimp only at hSx); clear hSw; go_simp) <;> (with_reducible rfl)
                simp only [Act.put, List.setIfInBounds_toArray, List.set_cons_zero, List.set_cons_succ]
                refine walkO_take (o := _) (v := ?_) (by rw [HOPS.out]; simp only [List.getElem?_toArray, List.getElem?_cons_succ, List.getElem?_cons_zero]; exact rfl) (Or.inl ⟨by rw [HOPS.out]; rfl, ?_⟩) ?_
                rotate_left
                · (intro w hSw; have hSx := HFC.out _ hSw; (try dsimp only at hSx); clear hSw; go_simp) <;> (with_reducible rfl)
                simp only [Act.put, List.setIfInBounds_toArray, List.set_cons_zero, List.set_cons_succ]
                refine walkO_take (o := _) (v := ?_) (by rw [HOPS.out]; simp only [List.getElem?_toArray, List.getElem?_cons_succ, List.getElem?_cons_zero]; exact rfl) (Or.inl ⟨by rw [HOPS.out]; rfl, ?_⟩) ?_
                rotate_left
                · (intro w hSw; have hSx := HFC.out _ hSw; (try dsimp only at hSx); clear hSw; go_simp) <;> (with_reducible rfl)
                simp only [Act.put, List.setIfInBounds_toArray, List.set_cons_zero, List.set_cons_succ]
                refine walkO_take (o := _) (v := ?_) (by rw [HOPS.out]; simp only [List.getElem?_toArray, List.getElem?_cons_succ, List.getElem?_cons_zero]; exact rfl) (Or.inl ⟨by rw [HOPS.out]; rfl, ?_⟩) ?_
                rotate_left
                · (intro w hSw; have hSx := HFC.out _ hSw; (try dsimp only at hSx); clear hSw; go_simp) <;> (with_reducible rfl)
                simp only [Act.put, List.setIfInBounds_toArray, List.set_cons_zero, List.set_cons_succ]
                refine walkO_take (o := _) (v := ?_) (by rw [HOPS.out]; simp only [List.getElem?_toArray, List.getElem?_cons_succ, List.getElem?_cons_zero]; exact rfl) (Or.inl ⟨by rw [HOPS.out]; rfl, ?_⟩) ?_
                rotate_left
                · (intro w hSw; have hSx := HFC.out _ hSw; (try dsimp only at hSx); clear hSw; go_simp) <;> (with_reducible rfl)
                simp only [Act.put, List.setIfInBounds_toArray, List.set_cons_zero, List.set_cons_succ]
                refine walkO_take (o := _) (v := ?_) (by rw [HOPS.out]; simp only [List.getElem?_toArray, List.getElem?_cons_succ, List.getElem?_cons_zero]; exact rfl) (Or.inl ⟨by rw [HOPS.out]; rfl, ?_⟩) ?_
                rotate_left
                · (intro w hSw; have hSx := HFC.out _ hSw; (try dsimp only at hSx); clear hSw; go_simp) <;> (with_reducible rfl)
                simp only [Act.put, List.setIfInBounds_toArray, List.set_cons_zero, List.set_cons_succ]
                refine walkO_take (o := _) (v := ?_) (by rw [HOPS.out]; simp only [List.getElem?_toArray, List.getElem?_cons_succ, List.getElem?_cons_zero]; exact rfl) (Or.inl ⟨by rw [HOPS.out]; rfl, ?_⟩) ?_
                rotate_left
                · (intro w hSw; have hSx := HFC.out _ hSw; (try dsimp only at hSx); clear hSw; go_simp) <;> (with_reducible rfl)
                simp only [Act.put, List.setIfInBounds_toArray, List.set_cons_zero, List.set_cons_succ]
                refine walkO_take (o := _) (v := ?_) (by rw [HOPS.out]; simp only [List.getElem?_toArray, List.getElem?_cons_succ, List.getElem?_cons_zero]; exact rfl) (Or.inl ⟨by rw [HOPS.out]; rfl, ?_⟩) ?_
                rotate_left
                · (intro w hSw; have hSx := HFC.out _ hSw; (try dsimp only at hSx); clear hSw; go_simp) <;> (with_reducible rfl)
                simp only [Act.put, List.setIfInBounds_toArray, List.set_cons_zero, List.set_cons_succ]
                refine walkO_take (o := _) (v := ?_) (by rw [HOPS.out]; simp only [List.getElem?_toArray, List.getElem?_cons_succ, List.getElem?_cons_zero]; exact rfl) (Or.inl ⟨by rw [HOPS.out]; rfl, ?_⟩) ?_
                rotate_left
                · (intro w hSw; have hSx := HFC.out _ hSw; (try dsimp only at hSx); clear hSw; go_simp) <;> (with_reducible rfl)
                simp only [Act.put, List.setIfInBounds_toArray, List.set_cons_zero, List.set_cons_succ]
                refine walkO_take (o := _) (v := ?_) (by rw [HOPS.out]; simp only [List.getElem?_toArray, List.getElem?_cons_succ, List.getElem?_cons_zero]; exact rfl) (Or.inl ⟨by rw [HOPS.out]; rfl, ?_⟩) ?_
                rotate_left
                · (intro w hSw; have hSx := HFC.out _ hSw; (try dsimp only at hSx); clear hSw; go_simp) <;> (with_reducible rfl)
                simp only [Act.put, List.setIfInBounds_toArray, List.set_cons_zero, List.set_cons_succ]
                refine walkO_take (o := _) (v := ?_) (by rw [HOPS.out]; simp only [List.getElem?_toArray, List.getElem?_cons_succ, List.getElem?_cons_zero]; exact rfl) (Or.inl ⟨by rw [HOPS.out]; rfl, ?_⟩) ?_
                rotate_left
                · (intro w hSw; have hSx := HFC.out _ hSw; (try dsimp only at hSx); clear hSw; go_simp) <;> (with_reducible rfl)
                simp only [Act.put, List.setIfInBounds_toArray, List.set_cons_zero, List.set_cons_succ]
                refine walkO_take (o := _) (v := ?_) (by rw [HOPS.out]; simp only [List.getElem?_toArray, List.getElem?_cons_succ, List.getElem?_cons_zero]; exact rfl) (Or.inl ⟨by rw [HOPS.out]; rfl, ?_⟩) ?_
                rotate_left
                · (intro w hSw; have hSx := HFC.out _ hSw; (try dsimp only at hSx); clear hSw; go_simp) <;> (with_reducible rfl)
                simp only [Act.put, List.setIfInBounds_toArray, List.set_cons_zero, List.set_cons_succ]
                refine walkO_take (o := _) (v := undef) (by rw [HOPS.out]; simp only [List.getElem?_toArray, List.getElem?_cons_succ, List.getElem?_cons_zero]; exact rfl) (Or.inr ⟨by rw [HOPS.out]; rfl, rfl⟩) ?_
                simp only [Act.put, List.setIfInBounds_toArray, List.set_cons_zero, List.set_cons_succ]
                refine walkO_take (o := _) (v := undef) (by rw [HOPS.out]; simp only [List.getElem?_toArray, List.getElem?_cons_succ, List.getElem?_cons_zero]; exact rfl) (Or.inr ⟨by rw [HOPS.out]; rfl, rfl⟩) ?_
                simp only [Act.put, List.setIfInBounds_toArray, List.set_cons_zero, List.set_cons_succ]
                refine walkO_take (o := _) (v := undef) (by rw [HOPS.out]; simp only [List.getElem?_toArray, List.getElem?_cons_succ, List.getElem?_cons_zero]; exact rfl) (Or.inr ⟨by rw [HOPS.out]; rfl, rfl⟩) ?_
                simp only [Act.put, List.setIfInBounds_toArray, List.set_cons_zero, List.set_cons_succ]
                refine walkO_take (o := _) (v := undef) (by rw [HOPS.out]; simp only [List.getElem?_toArray, List.getElem?_cons_succ, List.getElem?_cons_zero]; exact rfl) (Or.inr ⟨by rw [HOPS.out]; rfl, rfl⟩) ?_
                simp only [Act.put, List.setIfInBounds_toArray, List.set_cons_zero, List.set_cons_succ]
                refine walkO_take (o := _) (v := undef) (by rw [HOPS.out]; simp only [List.getElem?_toArray, List.getElem?_cons_succ, List.getElem?_cons_zero]; exact rfl) (Or.inr ⟨by rw [HOPS.out]; rfl, rfl⟩) ?_
                simp only [Act.put, List.setIfInBounds_toArray, List.set_cons_zero, List.set_cons_succ]
                refine walkO_take (o := _) (v := ?_) (by rw [HOPS.out]; simp only [List.getElem?_toArray, List.getElem?_cons_succ, List.getElem?_cons_zero]; exact rfl) (Or.inl ⟨by rw [HOPS.out]; rfl, ?_⟩) ?_
                rotate_left
                · (intro w hSw; have hSx := HFC.out _ hSw; (try dsimp only at hSx); clear hSw; go_simp) <;> (with_reducible rfl)
                simp only [Act.put, List.setIfInBounds_toArray, List.set_cons_zero, List.set_cons_succ]
                refine walkO_take (o := _) (v := ?_) (by rw [HOPS.out]; simp only [List.getElem?_toArray, List.getElem?_cons_succ, List.getElem?_cons_zero]; exact rfl) (Or.inl ⟨by rw [HOPS.out]; rfl, ?_⟩) ?_
                rotate_left
                · (intro w hSw; have hSx := HFC.out _ hSw; (try dsimp only at hSx); clear hSw; go_simp) <;> (with_reducible rfl)
                simp only [Act.put, List.setIfInBounds_toArray, List.set_cons_zero, List.set_cons_succ]
                refine walkO_take (o := _) (v := ?_) (by rw [HOPS.out]; simp only [List.getElem?_toArray, List.getElem?_cons_succ, List.getElem?_cons_zero]; exact rfl) (Or.inl ⟨by rw [HOPS.out]; rfl, ?_⟩) ?_
                rotate_left
                · (intro w hSw; have hSx := HFC.out _ hSw; (try dsimp only at hSx); clear hSw; go_simp) <;> (with_reducible rfl)
                simp only [Act.put, List.setIfInBounds_toArray, List.set_cons_zero, List.set_cons_succ]
                refine walkO_take (o := _) (v := ?_) (by rw [HOPS.out]; simp only [List.getElem?_toArray, List.getElem?_cons_succ, List.getElem?_cons_zero]; exact rfl) (Or.inl ⟨rfl, ?_⟩) ?_
                rotate_left
                · (intro w hSw; have hSx := HFC.out _ hSw; (try dsimp only at hSx); clear hSw; go_simp) <;> (with_reducible rfl)
                simp only [Act.put, List.setIfInBounds_toArray, List.set_cons_zero, List.set_cons_succ]
                refine walkO_done ?_
                clear HOPS OPS
                have g6 := gb.out.then0 f6
                have a6 := ab2.out.keep f6 gb.out.size (by simp)
                have s6 := Lib.hid (HB.out.keep0 f6)
                go_wp2_with fail
                go_roundw
                case rel => exact ⟨k + 1, t2, I2, O2, true, by omega, by go_num, rfl, HI2, HL2, s6, g6, a6⟩
                case measure => simp [intOf]; omega
              · as_aux_lemma =>
                have hle : ((I2.length : Int) != O2.length) = false := by rw [HFL.out rfl]; simp
                have hle2 : (I2.length != O2.length) = false := by rw [HFL.out rfl]; simp
                refine walkO_take (o := _) (v := ?_) (by rw [HOPS.out]; simp only [List.getElem?_toArray, List.getElem?_cons_succ, List.getElem?_cons_zero]; exact rfl) (Or.inl ⟨by rw [HOPS.out]; rfl, ?_⟩) ?_
                rotate_left
                · (intro w hSw; have hSx := HFC.out _ hSw; (try dsimp only at hSx); clear hSw; go_simp) <;> (with_reducible rfl)
                simp only [Act.put, List.setIfInBounds_toArray, List.set_cons_zero, List.set_cons_succ]
                refine walkO_take (o := _) (v := ?_) (by rw [HOPS.out]; simp only [List.getElem?_toArray, List.getElem?_cons_succ, List.getElem?_cons_zero]; exact rfl) (Or.inl ⟨rfl, ?_⟩) ?_
                rotate_left
                · (intro w hSw; have hSx := HFC.out _ hSw; (try dsimp only at hSx); clear hSw; go_simp) <;> (with_reducible rfl)
                simp only [Act.put, List.setIfInBounds_toArray, List.set_cons_zero, List.set_cons_succ]
                refine walkO_take (o := _) (v := ?_) (by rw [HOPS.out]; simp only [List.getElem?_toArray, List.getElem?_cons_succ, List.getElem?_cons_zero]; exact rfl) (Or.inl ⟨rfl, ?_⟩) ?_
                rotate_left
                · (intro w hSw; have hSx := HFC.out _ hSw; (try dsimp only at hSx); clear hSw; go_simp) <;> (with_reducible rfl)
                simp only [Act.put, List.setIfInBounds_toArray, List.set_cons_zero, List.set_cons_succ]
                refine walkO_take (o := _) (v := ?_) (by rw [HOPS.out]; simp only [List.getElem?_toArray, List.getElem?_cons_succ, List.getElem?_cons_zero]; exact rfl) (Or.inl ⟨by rw [HOPS.out]; rfl, ?_⟩) ?_
                rotate_left
                · (intro w hSw; have hSx := HFC.out _ hSw; (try dsimp only at hSx); clear hSw; go_simp) <;> (with_reducible rfl)
                simp only [Act.put, List.setIfInBounds_toArray, List.set_cons_zero, List.set_cons_succ]
                refine walkO_take (o := _) (v := ?_) (by rw [HOPS.out]; simp only [List.getElem?_toArray, List.getElem?_cons_succ, List.getElem?_cons_zero]; exact rfl) (Or.inl ⟨by rw [HOPS.out]; rfl, ?_⟩) ?_
                rotate_left
                · (intro w hSw; have hSx := HFC.out _ hSw; (try dsimp only at hSx); clear hSw; go_simp) <;> (with_reducible rfl)
                simp only [Act.put, List.setIfInBounds_toArray, List.set_cons_zero, List.set_cons_succ]
                refine walkO_take (o := _) (v := ?_) (by rw [HOPS.out]; simp only [List.getElem?_toArray, List.getElem?_cons_succ, List.getElem?_cons_zero]; exact rfl) (Or.inl ⟨by rw [HOPS.out]; rfl, ?_⟩) ?_
                rotate_left
                · (intro w hSw; have hSx := HFC.out _ hSw; (try dsimp only at hSx); clear hSw; go_simp) <;> (with_reducible rfl)
                simp only [Act.put, List.setIfInBounds_toArray, List.set_cons_zero, List.set_cons_succ]
                refine walkO_take (o := _) (v := ?_) (by rw [HOPS.out]; simp only [List.getElem?_toArray, List.getElem?_cons_succ, List.getElem?_cons_zero]; exact rfl) (Or.inl ⟨by rw [HOPS.out]; rfl, ?_⟩) ?_
                rotate_left
                · (intro w hSw; have hSx := HFC.out _ hSw; (try dsimp only at hSx); clear hSw; go_simp) <;> (with_reducible rfl)
                simp only [Act.put, List.setIfInBounds_toArray, List.set_cons_zero, List.set_cons_succ]
                refine walkO_take (o := _) (v := ?_) (by rw [HOPS.out]; simp only [List.getElem?_toArray, List.getElem?_cons_succ, List.getElem?_cons_zero]; exact rfl) (Or.inl ⟨by rw [HOPS.out]; rfl, ?_⟩) ?_
                rotate_left
                · (intro w hSw; have hSx := HFC.out _ hSw; (try dsimp only at hSx); clear hSw; go_simp) <;> (with_reducible rfl)
                simp only [Act.put, List.setIfInBounds_toArray, List.set_cons_zero, List.set_cons_succ]
                refine walkO_take (o := _) (v := ?_) (by rw [HOPS.out]; simp only [List.getElem?_toArray, List.getElem?_cons_succ, List.getElem?_cons_zero]; exact rfl) (Or.inl ⟨by rw [HOPS.out]; rfl, ?_⟩) ?_
                rotate_left
                · (intro w hSw; have hSx := HFC.out _ hSw; (try dsimp only at hSx); clear hSw; go_simp) <;> (with_reducible rfl)
                simp only [Act.put, List.setIfInBounds_toArray, List.set_cons_zero, List.set_cons_succ]
                refine walkO_take (o := _) (v := ?_) (by rw [HOPS.out]; simp only [List.getElem?_toArray, List.getElem?_cons_succ, List.getElem?_cons_zero]; exact rfl) (Or.inl ⟨by rw [HOPS.out]; rfl, ?_⟩) ?_
                rotate_left
                · (intro w hSw; have hSx := HFC.out _ hSw; (try dsimp only at hSx); clear hSw; go_simp) <;> (with_reducible rfl)
                simp only [Act.put, List.setIfInBounds_toArray, List.set_cons_zero, List.set_cons_succ]
                refine walkO_take (o := _) (v := ?_) (by rw [HOPS.out]; simp only [List.getElem?_toArray, List.getElem?_cons_succ, List.getElem?_cons_zero]; exact rfl) (Or.inl ⟨by rw [HOPS.out]; rfl, ?_⟩) ?_
                rotate_left
                · (intro w hSw; have hSx := HFC.out _ hSw; (try dsimp only at hSx); clear hSw; go_simp) <;> (with_reducible rfl)
                simp only [Act.put, List.setIfInBounds_toArray, List.set_cons_zero, List.set_cons_succ]
                refine walkO_take (o := _) (v := ?_) (by rw [HOPS.out]; simp only [List.getElem?_toArray, List.getElem?_cons_succ, List.getElem?_cons_zero]; exact rfl) (Or.inl ⟨by rw [HOPS.out]; rfl, ?_⟩) ?_
                rotate_left
                · (intro w hSw; have hSx := HFC.out _ hSw; (try dsimp only at hSx); clear hSw; go_simp) <;> (with_reducible rfl)
                simp only [Act.put, List.setIfInBounds_toArray, List.set_cons_zero, List.set_cons_succ]
                refine walkO_take (o := _) (v := ?_) (by rw [HOPS.out]; simp only [List.getElem?_toArray, List.getElem?_cons_succ, List.getElem?_cons_zero]; exact rfl) (Or.inl ⟨by rw [HOPS.out]; rfl, ?_⟩) ?_
                rotate_left
                · (intro w hSw; have hSx := HFC.out _ hSw; (try dsimp only at hSx); clear hSw; go_simp) <;> (with_reducible rfl)
                simp only [Act.put, List.setIfInBounds_toArray, List.set_cons_zero, List.set_cons_succ]
                refine walkO_take (o := _) (v := ?_) (by rw [HOPS.out]; simp only [List.getElem?_toArray, List.getElem?_cons_succ, List.getElem?_cons_zero]; exact rfl) (Or.inl ⟨by rw [HOPS.out]; rfl, ?_⟩) ?_
                rotate_left
                · (intro w hSw; have hSx := HFC.out _ hSw; (try dsimp only at hSx); clear hSw; go_simp) <;> (with_reducible rfl)
                simp only [Act.put, List.setIfInBounds_toArray, List.set_cons_zero, List.set_cons_succ]
                refine walkO_take (o := _) (v := ?_) (by rw [HOPS.out]; simp only [List.getElem?_toArray, List.getElem?_cons_succ, List.getElem?_cons_zero]; exact rfl) (Or.inl ⟨by rw [HOPS.out]; rfl, ?_⟩) ?_
                rotate_left
                · (intro w hSw; have hSx := HFC.out _ hSw; (try dsimp only at hSx); clear hSw; go_simp) <;> (with_reducible rfl)
                simp only [Act.put, List.setIfInBounds_toArray, List.set_cons_zero, List.set_cons_succ]
                refine walkO_take (o := _) (v := ?_) (by rw [HOPS.out]; simp only [List.getElem?_toArray, List.getElem?_cons_succ, List.getElem?_cons_zero]; exact rfl) (Or.inl ⟨by rw [HOPS.out]; rfl, ?_⟩) ?_
                rotate_left
                · (intro w hSw; have hSx := HFC.out _ hSw; (try dsimp only at hSx); clear hSw; go_simp) <;> (with_reducible rfl)
                simp only [Act.put, List.setIfInBounds_toArray, List.set_cons_zero, List.set_cons_succ]
                refine walkO_take (o := _) (v := ?_) (by rw [HOPS.out]; simp only [List.getElem?_toArray, List.getElem?_cons_succ, List.getElem?_cons_zero]; exact rfl) (Or.inl ⟨by rw [HOPS.out]; rfl, ?_⟩) ?_
                rotate_left
                · (intro w hSw; have hSx := HFC.out _ hSw; (try dsimp only at hSx); clear hSw; go_simp) <;> (with_reducible rfl)
                simp only [Act.put, List.setIfInBounds_toArray, List.set_cons_zero, List.set_cons_succ]
                refine walkO_take (o := _) (v := ?_) (by rw [HOPS.out]; simp only [List.getElem?_toArray, List.getElem?_cons_succ, List.getElem?_cons_zero]; exact rfl) (Or.inl ⟨by rw [HOPS.out]; rfl, ?_⟩) ?_
                rotate_left
                · (intro w hSw; have hSx := HFC.out _ hSw; (try dsimp only at hSx); clear hSw; go_simp) <;> (with_reducible rfl)
                simp only [Act.put, List.setIfInBounds_toArray, List.set_cons_zero, List.set_cons_succ]
                refine walkO_take (o := _) (v := ?_) (by rw [HOPS.out]; simp only [List.getElem?_toArray, List.getElem?_cons_succ, List.getElem?_cons_zero]; exact rfl) (Or.inl ⟨by rw [HOPS.out]; rfl, ?_⟩) ?_
                rotate_left
                · (intro w hSw; have hSx := HFC.out _ hSw; (try dsimp only at hSx); clear hSw; go_simp) <;> (with_reducible rfl)
                simp only [Act.put, List.setIfInBounds_toArray, List.set_cons_zero, List.set_cons_succ]
                refine walkO_take (o := _) (v := ?_) (by rw [HOPS.out]; simp only [List.getElem?_toArray, List.getElem?_cons_succ, List.getElem?_cons_zero]; exact rfl) (Or.inl ⟨by rw [HOPS.out]; rfl, ?_⟩) ?_
                rotate_left
                · (intro w hSw; have hSx := HFC.out _ hSw; (try dsimp only at hSx); clear hSw; go_simp) <;> (with_reducible rfl)
                simp only [Act.put, List.setIfInBounds_toArray, List.set_cons_zero, List.set_cons_succ]
                refine walkO_take (o := _) (v := ?_) (by rw [HOPS.out]; simp only [List.getElem?_toArray, List.getElem?_cons_succ, List.getElem?_cons_zero]; exact rfl) (Or.inl ⟨by rw [HOPS.out]; rfl, ?_⟩) ?_
                rotate_left
                · (intro w hSw; have hSx := HFC.out _ hSw; (try dsimp only at hSx); clear hSw; go_simp) <;> (with_reducible rfl)
                simp only [Act.put, List.setIfInBounds_toArray, List.set_cons_zero, List.set_cons_succ]
                refine walkO_take (o := _) (v := ?_) (by rw [HOPS.out]; simp only [List.getElem?_toArray, List.getElem?_cons_succ, List.getElem?_cons_zero]; exact rfl) (Or.inl ⟨by rw [HOPS.out]; rfl, ?_⟩) ?_
                rotate_left
                · (intro w hSw; have hSx := HFC.out _ hSw; (try dsimp only at hSx); clear hSw; go_simp) <;> (with_reducible rfl)
                simp only [Act.put, List.setIfInBounds_toArray, List.set_cons_zero, List.set_cons_succ]
                refine walkO_take (o := _) (v := ?_) (by rw [HOPS.out]; simp only [List.getElem?_toArray, List.getElem?_cons_succ, List.getElem?_cons_zero]; exact rfl) (Or.inl ⟨by rw [HOPS.out]; rfl, ?_⟩) ?_
                rotate_left
                · (intro w hSw; have hSx := HFC.out _ hSw; (try dsimp only at hSx); clear hSw; go_simp) <;> (with_reducible rfl)
                simp only [Act.put, List.setIfInBounds_toArray, List.set_cons_zero, List.set_cons_succ]
                refine walkO_take (o := _) (v := ?_) (by rw [HOPS.out]; simp only [List.getElem?_toArray, List.getElem?_cons_succ, List.getElem?_cons_zero]; exact rfl) (Or.inl ⟨by rw [HOPS.out]; rfl, ?_⟩) ?_
                rotate_left
                · (intro w hSw; have hSx := HFC.out _ hSw; (try dsimp only at hSx); clear hSw; go_simp) <;> (with_reducible rfl)
                simp only [Act.put, List.setIfInBounds_toArray, List.set_cons_zero, List.set_cons_succ]
                refine walkO_take (o := _) (v := ?_) (by rw [HOPS.out]; simp only [List.getElem?_toArray, List.getElem?_cons_succ, List.getElem?_cons_zero]; exact rfl) (Or.inl ⟨rfl, ?_⟩) ?_
                rotate_left
                · (intro w hSw; have hSx := HFC.out _ hSw; (try dsimp only at hSx); clear hSw; go_simp) <;> (with_reducible rfl)
                simp only [Act.put, List.setIfInBounds_toArray, List.set_cons_zero, List.set_cons_succ]
                refine walkO_done ?_
                clear HOPS OPS
                have g6 := gb.out.then0 f6
                have a6 := ab2.out.keep f6 gb.out.size (by simp)
                have s6 := Lib.hid (HB.out.keep0 f6)
                go_wp2_with fail
                go_roundw
                case rel => exact ⟨k + 1, t2, I2, O2, false, by omega, by go_num, rfl, HI2, HL2, s6, g6, a6⟩
                case measure => simp [intOf]; omega
            · as_aux_lemma =>
              have hk4' : (kd == 4) = false := by simpa using hk4
              clear hk4
              refine walkO_take (o := _) (v := ?_) (by rw [HOPS.out]; simp only [List.getElem?_toArray, List.getElem?_cons_succ, List.getElem?_cons_zero]; exact rfl) (Or.inl ⟨by rw [HOPS.out]; rfl, ?_⟩) ?_
              rotate_left
              · (intro w hSw; have hSx := HFC.out _ hSw; (try dsimp only at hSx); clear hSw; go_simp) <;> (with_reducible rfl)
              simp only [Act.put, List.setIfInBounds_toArray, List.set_cons_zero, List.set_cons_succ]
              refine walkO_take (o := _) (v := ?_) (by rw [HOPS.out]; simp only [List.getElem?_toArray, List.getElem?_cons_succ, List.getElem?_cons_zero]; exact rfl) (Or.inl ⟨rfl, ?_⟩) ?_
              rotate_left
              · (intro w hSw; have hSx := HFC.out _ hSw; (try dsimp only at hSx); clear hSw; go_simp) <;> (with_reducible rfl)
              simp only [Act.put, List.setIfInBounds_toArray, List.set_cons_zero, List.set_cons_succ]
              refine walkO_take (o := _) (v := ?_) (by rw [HOPS.out]; simp only [List.getElem?_toArray, List.getElem?_cons_succ, List.getElem?_cons_zero]; exact rfl) (Or.inl ⟨rfl, ?_⟩) ?_
              rotate_left
              · (intro w hSw; have hSx := HFC.out _ hSw; (try dsimp only at hSx); clear hSw; go_simp) <;> (with_reducible rfl)
              simp only [Act.put, List.setIfInBounds_toArray, List.set_cons_zero, List.set_cons_succ]
              refine walkO_take (o := _) (v := ?_) (by rw [HOPS.out]; simp only [List.getElem?_toArray, List.getElem?_cons_succ, List.getElem?_cons_zero]; exact rfl) (Or.inl ⟨by rw [HOPS.out]; rfl, ?_⟩) ?_
              rotate_left
              · (intro w hSw; have hSx := HFC.out _ hSw; (try dsimp only at hSx); clear hSw; go_simp) <;> (with_reducible rfl)
              simp only [Act.put, List.setIfInBounds_toArray, List.set_cons_zero, List.set_cons_succ]
              refine walkO_take (o := _) (v := ?_) (by rw [HOPS.out]; simp only [List.getElem?_toArray, List.getElem?_cons_succ, List.getElem?_cons_zero]; exact rfl) (Or.inl ⟨by rw [HOPS.out]; rfl, ?_⟩) ?_
              rotate_left
              · (intro w hSw; have hSx := HFC.out _ hSw; (try dsimp only at hSx); clear hSw; go_simp) <;> (with_reducible rfl)
              simp only [Act.put, List.setIfInBounds_toArray, List.set_cons_zero, List.set_cons_succ]
              refine walkO_take (o := _) (v := ?_) (by rw [HOPS.out]; simp only [List.getElem?_toArray, List.getElem?_cons_succ, List.getElem?_cons_zero]; exact rfl) (Or.inl ⟨by rw [HOPS.out]; rfl, ?_⟩) ?_
              rotate_left
              · (intro w hSw; have hSx := HFC.out _ hSw; (try dsimp only at hSx); clear hSw; go_simp) <;> (with_reducible rfl)
              simp only [Act.put, List.setIfInBounds_toArray, List.set_cons_zero, List.set_cons_succ]
              refine walkO_take (o := _) (v := ?_) (by rw [HOPS.out]; simp only [List.getElem?_toArray, List.getElem?_cons_succ, List.getElem?_cons_zero]; exact rfl) (Or.inl ⟨by rw [HOPS.out]; rfl, ?_⟩) ?_
              rotate_left
              · (intro w hSw; have hSx := HFC.out _ hSw; (try dsimp only at hSx); clear hSw; go_simp) <;> (with_reducible rfl)
              simp only [Act.put, List.setIfInBounds_toArray, List.set_cons_zero, List.set_cons_succ]
              refine walkO_take (o := _) (v := undef) (by rw [HOPS.out]; simp only [List.getElem?_toArray, List.getElem?_cons_succ, List.getElem?_cons_zero]; exact rfl) (Or.inr ⟨by rw [HOPS.out]; rfl, rfl⟩) ?_
              simp only [Act.put, List.setIfInBounds_toArray, List.set_cons_zero, List.set_cons_succ]
              refine walkO_take (o := _) (v := undef) (by rw [HOPS.out]; simp only [List.getElem?_toArray, List.getElem?_cons_succ, List.getElem?_cons_zero]; exact rfl) (Or.inr ⟨by rw [HOPS.out]; rfl, rfl⟩) ?_
              simp only [Act.put, List.setIfInBounds_toArray, List.set_cons_zero, List.set_cons_succ]
              refine walkO_take (o := _) (v := undef) (by rw [HOPS.out]; simp only [List.getElem?_toArray, List.getElem?_cons_succ, List.getElem?_cons_zero]; exact rfl) (Or.inr ⟨by rw [HOPS.out]; rfl, rfl⟩) ?_
              simp only [Act.put, List.setIfInBounds_toArray, List.set_cons_zero, List.set_cons_succ]
              refine walkO_take (o := _) (v := undef) (by rw [HOPS.out]; simp only [List.getElem?_toArray, List.getElem?_cons_succ, List.getElem?_cons_zero]; exact rfl) (Or.inr ⟨by rw [HOPS.out]; rfl, rfl⟩) ?_
              simp only [Act.put, List.setIfInBounds_toArray, List.set_cons_zero, List.set_cons_succ]
              refine walkO_take (o := _) (v := undef) (by rw [HOPS.out]; simp only [List.getElem?_toArray, List.getElem?_cons_succ, List.getElem?_cons_zero]; exact rfl) (Or.inr ⟨by rw [HOPS.out]; rfl, rfl⟩) ?_
              simp only [Act.put, List.setIfInBounds_toArray, List.set_cons_zero, List.set_cons_succ]
              refine walkO_take (o := _) (v := undef) (by rw [HOPS.out]; simp only [List.getElem?_toArray, List.getElem?_cons_succ, List.getElem?_cons_zero]; exact rfl) (Or.inr ⟨by rw [HOPS.out]; rfl, rfl⟩) ?_
              simp only [Act.put, List.setIfInBounds_toArray, List.set_cons_zero, List.set_cons_succ]
              refine walkO_take (o := _) (v := undef) (by rw [HOPS.out]; simp only [List.getElem?_toArray, List.getElem?_cons_succ, List.getElem?_cons_zero]; exact rfl) (Or.inr ⟨by rw [HOPS.out]; rfl, rfl⟩) ?_
              simp only [Act.put, List.setIfInBounds_toArray, List.set_cons_zero, List.set_cons_succ]
              refine walkO_take (o := _) (v := undef) (by rw [HOPS.out]; simp only [List.getElem?_toArray, List.getElem?_cons_succ, List.getElem?_cons_zero]; exact rfl) (Or.inr ⟨by rw [HOPS.out]; rfl, rfl⟩) ?_
              simp only [Act.put, List.setIfInBounds_toArray, List.set_cons_zero, List.set_cons_succ]
              refine walkO_take (o := _) (v := undef) (by rw [HOPS.out]; simp only [List.getElem?_toArray, List.getElem?_cons_succ, List.getElem?_cons_zero]; exact rfl) (Or.inr ⟨by rw [HOPS.out]; rfl, rfl⟩) ?_
              simp only [Act.put, List.setIfInBounds_toArray, List.set_cons_zero, List.set_cons_succ]
              refine walkO_take (o := _) (v := undef) (by rw [HOPS.out]; simp only [List.getElem?_toArray, List.getElem?_cons_succ, List.getElem?_cons_zero]; exact rfl) (Or.inr ⟨by rw [HOPS.out]; rfl, rfl⟩) ?_
              simp only [Act.put, List.setIfInBounds_toArray, List.set_cons_zero, List.set_cons_succ]
              refine walkO_take (o := _) (v := undef) (by rw [HOPS.out]; simp only [List.getElem?_toArray, List.getElem?_cons_succ, List.getElem?_cons_zero]; exact rfl) (Or.inr ⟨by rw [HOPS.out]; rfl, rfl⟩) ?_
              simp only [Act.put, List.setIfInBounds_toArray, List.set_cons_zero, List.set_cons_succ]
              refine walkO_take (o := _) (v := undef) (by rw [HOPS.out]; simp only [List.getElem?_toArray, List.getElem?_cons_succ, List.getElem?_cons_zero]; exact rfl) (Or.inr ⟨by rw [HOPS.out]; rfl, rfl⟩) ?_
              simp only [Act.put, List.setIfInBounds_toArray, List.set_cons_zero, List.set_cons_succ]
              refine walkO_take (o := _) (v := undef) (by rw [HOPS.out]; simp only [List.getElem?_toArray, List.getElem?_cons_succ, List.getElem?_cons_zero]; exact rfl) (Or.inr ⟨by rw [HOPS.out]; rfl, rfl⟩) ?_
              simp only [Act.put, List.setIfInBounds_toArray, List.set_cons_zero, List.set_cons_succ]
              refine walkO_take (o := _) (v := undef) (by rw [HOPS.out]; simp only [List.getElem?_toArray, List.getElem?_cons_succ, List.getElem?_cons_zero]; exact rfl) (Or.inr ⟨by rw [HOPS.out]; rfl, rfl⟩) ?_
              simp only [Act.put, List.setIfInBounds_toArray, List.set_cons_zero, List.set_cons_succ]
              refine walkO_take (o := _) (v := undef) (by rw [HOPS.out]; simp only [List.getElem?_toArray, List.getElem?_cons_succ, List.getElem?_cons_zero]; exact rfl) (Or.inr ⟨by rw [HOPS.out]; rfl, rfl⟩) ?_
              simp only [Act.put, List.setIfInBounds_toArray, List.set_cons_zero, List.set_cons_succ]
              refine walkO_take (o := _) (v := undef) (by rw [HOPS.out]; simp only [List.getElem?_toArray, List.getElem?_cons_succ, List.getElem?_cons_zero]; exact rfl) (Or.inr ⟨by rw [HOPS.out]; rfl, rfl⟩) ?_
              simp only [Act.put, List.setIfInBounds_toArray, List.set_cons_zero, List.set_cons_succ]
              refine walkO_take (o := _) (v := ?_) (by rw [HOPS.out]; simp only [List.getElem?_toArray, List.getElem?_cons_succ, List.getElem?_cons_zero]; exact rfl) (Or.inl ⟨by rw [HOPS.out]; rfl, ?_⟩) ?_
              rotate_left
              · (intro w hSw; have hSx := HFC.out _ hSw; (try dsimp only at hSx); clear hSw; go_simp) <;> (with_reducible rfl)
              simp only [Act.put, List.setIfInBounds_toArray, List.set_cons_zero, List.set_cons_succ]
              refine walkO_take (o := _) (v := ?_) (by rw [HOPS.out]; simp only [List.getElem?_toArray, List.getElem?_cons_succ, List.getElem?_cons_zero]; exact rfl) (Or.inl ⟨rfl, ?_⟩) ?_
              rotate_left
              · (intro w hSw; have hSx := HFC.out _ hSw; (try dsimp only at hSx); clear hSw; go_simp) <;> (with_reducible rfl)
              simp only [Act.put, List.setIfInBounds_toArray, List.set_cons_zero, List.set_cons_succ]
              refine walkO_done ?_
              clear HOPS OPS
              have g6 := gb.out.then0 f6
              have a6 := ab2.out.keep f6 gb.out.size (by simp)
              have s6 := Lib.hid (HB.out.keep0 f6)
              go_wp2_with fail
              go_roundw
              case rel => exact ⟨k + 1, t2, I2, O2, fl2, by omega, by go_num, rfl, HI2, HL2, s6, g6, a6⟩
              case measure => simp [intOf]; omega
    · go_wp2_with fail
      refine (known21 _).mono ?_
      rintro e w99 ⟨rfl, f99⟩
      go_wp2_with fail
      go_ret
      exact ⟨rfl, gr.then0 f99⟩
theorem transferHolds_walk {a : Option Addr} {len cap : Nat} (sg lm : Int) (w : World) (h : ∃ A, Acts21 w w.heap.size a len cap A) :
    Calls Try.prog 4 #[.int .i64 sg, .int .i64 lm, .slice a len cap] w fun e w' => e = .returned (.bool true) ∧ Fr [] w w' := by
  obtain ⟨A, hA⟩ := h
  have HF := few21 hA
  have HV := fun w => rvalid w sg lm
  by_cases hs : fewB21 A = true
  · by_cases hk : okS sg lm = true
    · exact transferHolds_main w hk hA hs
    · rw [hs] at HF
      rw [show okS sg lm = false from by simpa using hk] at HV
      replace HF := Lib.hid HF
      replace HV := Lib.hid HV
      clear hs hk hA
      go_enter Try.func4, Try.ntmps4
      go_wp2_with fail
      refine HF.out.mono ?_
      rintro e w' ⟨rfl, rfl⟩
      go_wp2_with fail
      refine (HV.out _).mono ?_
      rintro e w' ⟨rfl, rfl⟩
      go_wp2_with fail
      refine (known21 _).mono ?_
      rintro e w' ⟨rfl, f⟩
      go_wp2_with fail
      go_ret
      exact ⟨rfl, f⟩
  · rw [show fewB21 A = false from by simpa using hs] at HF
    replace HF := Lib.hid HF
    clear HV hs hA
    go_enter Try.func4, Try.ntmps4
    go_wp2_with fail
    refine HF.out.mono ?_
    rintro e w' ⟨rfl, rfl⟩
    go_wp2_with fail
    refine (known21 _).mono ?_
    rintro e w' ⟨rfl, f⟩
    go_wp2_with fail
    go_ret
    exact ⟨rfl, f⟩
end Go.Proofs.Ytodpkdbcdbdjfaa
