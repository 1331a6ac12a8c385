/-
  Law 14: StreamHolds: all bytes that were read are a beginning of those that were accepted, in order.
-/
import Derived.Test.YtdoamelhclnphaaAppX
import Derived.Test.YtdoamelhclnphaaKnown14
import Derived.Test.YtdoamelhclnphaaStHoldL
import Derived.Deep.DeepCutAuto
import Derived.Deep.CutBlock
namespace Go.Proofs.Ytdoamelhclnphaa
open Go.RowKit
set_option maxRecDepth 100000

theorem st_self14 (l : List UInt8) : (st l != st l) = false := by
  have h : (st l == st l) = true := by
    show (l.toArray == l.toArray) = true
    simp
  unfold bne
  rw [h]
  rfl
/-- A stream, what was begun and what was read, apart from each other. -/
def HMem (w0 wr : World) (b : Nat) (m : SM) (bv : Value) (begun : List UInt8) (rv : Value) (read : List UInt8) : Prop :=
  ∃ F : Nat → Prop, SF wr F b m ∧ (∀ x, F x → w0.heap.size ≤ x) ∧ PB wr w0.heap.size bv begun ∧ Ow wr w0.heap.size 5 rv ((bi read).map (Value.int .u8)) ∧ (∀ x, F x → bv.ownBlock ≠ some x ∧ rv.ownBlock ≠ some x) ∧ (∀ x, bv.ownBlock = some x → rv.ownBlock ≠ some x)
theorem HMem.keep0 {w0 wr w' : World} {b : Nat} {m : SM} {bv rv : Value} {begun read : List UInt8} (h : HMem w0 wr b m bv begun rv read) (f : Fr [] wr w') : HMem w0 w' b m bv begun rv read := by
  obtain ⟨F, h1, h2, h3, h4, h5, h6⟩ := h
  exact ⟨F, h1.keep0 f, h2, h3.keep f (by simp), h4.keep f (by simp), h5, h6⟩
theorem PB.blk {w : World} {M : Nat} {v : Value} {l : List UInt8} (h : PB w M v l) : ∀ g, v.ownBlock = some g → M ≤ g ∧ g < w.heap.size := by
  intro g e
  rcases h with ⟨rfl, _⟩ | ⟨g', cap, rfl, _, h2, h3, _⟩
  · cases e
  · injection e with e
    subst e
    exact ⟨h2, h3⟩
/-- Behind a call on the stream. -/
theorem HMem.call {w0 wr w' : World} {b : Nat} {m' : SM} {bv rv : Value} {begun read : List UInt8} {F : Nat → Prop} (h0 : w0.heap.size ≤ wr.heap.size) (h2 : ∀ x, F x → w0.heap.size ≤ x) (h3 : PB wr w0.heap.size bv begun) (h4 : Ow wr w0.heap.size 5 rv ((bi read).map (Value.int .u8))) (h5 : ∀ x, F x → bv.ownBlock ≠ some x ∧ rv.ownBlock ≠ some x) (h6 : ∀ x, bv.ownBlock = some x → rv.ownBlock ≠ some x) (h : SFP wr F b m' w') :
    HMem w0 w' b m' bv begun rv read ∧ ∃ S, Fr S wr w' ∧ ∀ x ∈ S, w0.heap.size ≤ x := by
  obtain ⟨⟨S, hS, f⟩, F', hF', h'⟩ := h
  have hb := h3.blk
  have hr := h4.lt
  refine ⟨⟨F', h', fun x hx => ?_, h3.keep f (fun g e hm => ?_), h4.keep f (fun g e hm => ?_), fun x hx => ⟨fun e => ?_, fun e => ?_⟩, h6⟩, S, f, fun x hx => ?_⟩
  · rcases hF' x hx with h | h
    · exact h2 x h
    · omega
  · rcases hS g hm with h | h
    · exact (h5 g h).1 e
    · have := (hb g e).2; omega
  · rcases hS g hm with h | h
    · exact (h5 g h).2 e
    · have := (hr g e).2; omega
  · rcases hF' x hx with h | h
    · exact (h5 x h).1 e
    · have := (hb x e).2; omega
  · rcases hF' x hx with h | h
    · exact (h5 x h).2 e
    · have := (hr x e).2; omega
  · rcases hS x hx with h | h
    · exact h2 x h
    · omega
theorem closew_busy (m : SM) (n : Int) : (closewM m n).m.busy = m.busy := by
  unfold closewM
  split
  · rfl
  · split
    · rfl
    · rfl
theorem read_busy (m : SM) (n : Int) : (readM m n).m.busy = m.busy := by
  unfold readM
  split
  · rfl
  split
  · rfl
  split
  · rfl
  split
  · exact fill_busy _
  split
  · rfl
  split <;> rfl
theorem begin_no {m : SM} {x : List UInt8} (h : (beginM m x).err ≠ 0) : (beginM m x).m = m := by
  unfold beginM at h ⊢
  split
  · rfl
  split
  · rfl
  split
  · rfl
  · rename_i h1 h2 h3
    rw [if_neg h1, if_neg h2, if_neg h3] at h
    exact absurd rfl h
theorem begin_yes {m : SM} {x : List UInt8} (hr : m.r = 0) (h : (beginM m x).err = 0) : m.w = 0 ∧ m.busy = false ∧ (beginM m x).m.busy = true := by
  unfold beginM at h ⊢
  by_cases h1 : m.w ≠ 0
  · rw [if_pos h1] at h
    exact absurd h (by simp)
  by_cases h3 : m.busy = true
  · rw [if_neg h1, if_neg (by rw [hr]; simp), if_pos h3] at h
    exact absurd h (by simp)
  rw [if_neg h1, if_neg (by rw [hr]; simp), if_neg h3]
  exact ⟨Classical.not_not.1 h1, by simpa using h3, fill_busy _⟩
theorem end_cases {m : SM} (hr : m.r = 0) : (endM m = ⟨m, 0, 8⟩ ∧ m.busy = false) ∨ endM m = ⟨m, 0, 16⟩ ∨ m.busy = true ∧ (endM m = ⟨stopM m, m.acc, 0⟩ ∨ endM m = ⟨stopM m, m.acc, 14⟩) := by
  unfold endM
  by_cases h1 : m.busy = false
  · rw [if_pos h1]
    exact .inl ⟨rfl, h1⟩
  rw [if_neg h1]
  by_cases h2 : atEndM m = false
  · rw [if_pos h2]
    exact .inr (.inl rfl)
  rw [if_neg h2]
  refine .inr (.inr ⟨by simpa using h1, ?_⟩)
  unfold howM
  by_cases h3 : m.rest = []
  · rw [if_pos h3]
    exact .inl rfl
  rw [if_neg h3, hr]
  split
  · exact .inr rfl
  · exact .inl rfl
theorem cancel_cases (m : SM) : (cancelM m = ⟨m, 0, 8⟩ ∧ m.busy = false) ∨ cancelM m = ⟨m, 0, 16⟩ ∨ m.busy = true ∧ (cancelM m = ⟨stopM m, m.acc, 0⟩ ∨ cancelM m = ⟨stopM m, m.acc, 14⟩) := by
  unfold cancelM
  by_cases h1 : m.busy = false
  · rw [if_pos h1]
    exact .inl ⟨rfl, h1⟩
  rw [if_neg h1]
  exact .inr (.inr ⟨by simpa using h1, .inl rfl⟩)
/-- Behind an append to what was read. -/
theorem HMem.app {w0 w6 w7 : World} {b : Nat} {m : SM} {bv rv v7 : Value} {begun read out : List UInt8} (h0 : w0.heap.size ≤ w6.heap.size) (h : HMem w0 w6 b m bv begun rv read) (o7 : Ow w7 w0.heap.size 5 v7 ((bi read).map (Value.int .u8) ++ (bi out).map (Value.int .u8))) (f7 : Fr rv.ownBlock.toList w6 w7) (hb : v7.ownBlock = rv.ownBlock ∨ v7.ownBlock = some w6.heap.size) :
    HMem w0 w7 b m bv begun v7 (read ++ out) := by
  obtain ⟨F, h1, h2, h3, h4, h5, h6⟩ := h
  have hlt := h1.lt
  have hbl := h3.blk
  refine ⟨F, h1.keep f7 (fun x hx hF => (h5 x hF).2 (by simpa using hx)), h2, h3.keep f7 (fun g e hm => h6 g e (by simpa using hm)), by rw [bi_append, List.map_append]; exact o7, fun x hx => ⟨(h5 x hx).1, fun e => ?_⟩, fun x e e' => ?_⟩
  · rcases hb with hb | hb
    · exact (h5 x hx).2 (hb ▸ e)
    · rw [hb] at e
      injection e with e
      have := hlt x hx
      omega
  · rcases hb with hb | hb
    · exact h6 x e (hb ▸ e')
    · rw [hb] at e'
      injection e' with e'
      have := (hbl x e).2
      omega
/-- Behind an append to what was begun. -/
theorem HMem.grown {w0 w9 w10 w11 : World} {b : Nat} {m : SM} {a : Option Addr} {bc : Nat} {rv v11 : Value} {begun read X : List UInt8} (h0 : w0.heap.size ≤ w9.heap.size) (h : HMem w0 w9 b m (.slice a begun.length bc) begun rv read) (f10 : Fr [] w9 w10) (f11 : Fr [] w10 w11)
    (hor : ((bi X).map (Value.int .u8) = [] ∧ v11 = .slice a begun.length begun.length ∧ w11 = w10) ∨ Ow w11 w10.heap.size 5 v11 ((bi begun).map (Value.int .u8) ++ (bi X).map (Value.int .u8))) :
    HMem w0 w11 b m v11 (begun ++ X) rv read := by
  have f := f10.then0 f11
  obtain ⟨F, g1, g2, g3, g4, g5, g6⟩ := h
  have flt := g1.lt
  have hz := f10.size
  have h1 := g1.keep0 f
  have h3 := g3.keep f (by simp)
  have h4 := g4.keep f (by simp)
  rcases hor with ⟨hx, rfl, _⟩ | ow
  · have hX : X = [] := by
      have := congrArg List.length hx
      simpa [bi_length] using this
    subst hX
    rw [List.append_nil]
    have hc := h3.cut (k := begun.length) (c' := begun.length) (Nat.le_refl _) (Nat.le_refl _) (fun e => by
      subst e
      rcases h3 with ⟨_, h⟩ | ⟨_, _, e, _⟩
      · rw [h]; rfl
      · injection e with e; cases e)
    rw [List.take_length] at hc
    have hob : (Value.slice a begun.length begun.length).ownBlock = (Value.slice a begun.length bc).ownBlock := by cases a <;> rfl
    exact ⟨F, h1, g2, hc, h4, fun x hx => ⟨hob ▸ (g5 x hx).1, (g5 x hx).2⟩, fun x e => g6 x (hob ▸ e)⟩
  · have hl := ow.lt
    exact ⟨F, h1, g2, PB.ofOw (by rw [bi_append, List.map_append]; exact ow.mono (by omega)), h4, fun x hx => ⟨fun e => by have := (hl x e).1; have := flt x hx; omega, (g5 x hx).2⟩, fun x e e' => by have := (hl x e).1; have := (g4.lt x e').2; omega⟩
/-- Behind a cut of what was begun. -/
theorem HMem.cut {w0 w6 : World} {b : Nat} {m : SM} {a : Option Addr} {bc g : Nat} {rv : Value} {begun read : List UInt8} (h : HMem w0 w6 b m (.slice a begun.length bc) begun rv read) (hg : g ≤ begun.length) (hbc : begun.length ≤ bc) : HMem w0 w6 b m (.slice a g bc) (begun.take g) rv read := by
  obtain ⟨F, g1, g2, g3, g4, g5, g6⟩ := h
  have hob : (Value.slice a g bc).ownBlock = (Value.slice a begun.length bc).ownBlock := by cases a <;> rfl
  refine ⟨F, g1, g2, g3.cut hg (by omega) (fun e => ?_), g4, fun x hx => ⟨hob ▸ (g5 x hx).1, (g5 x hx).2⟩, fun x e => g6 x (hob ▸ e)⟩
  subst e
  rcases g3 with ⟨e, _⟩ | ⟨_, _, e, _⟩
  · injection e
  · injection e with e; cases e
theorem run_cap {a : Option Addr} {n c : Nat} (hc : n ≤ c) (w : World) : (Instr.slice 29 (.slice a n c) none (some (.int .i64 n)) (some (.int .i64 n))).run Try.prog w = .ok (.slice a n n) w := by
  have hs : ∀ w, (sizeOf (Try.prog.elem 29)).run Try.prog w = .ok 1 w := fun _ => by kernel_rfl
  rw [run_slice_hm (P := Try.prog) (w := w) (t := 29) (a := a) (len := n) (cap := c) (by kernel_rfl) .i64 .i64 (n : Int) (n : Int) (by omega) (by omega) (by omega), hs]
  simp [Result.andThen, sliced]
  intro _
  cases a <;> simp [Addr.add]
theorem sumB_take_le {A : List A14} (k : Nat) : sumB (A.take k) ≤ sumB A := by
  unfold sumB
  conv => rhs; rw [← List.take_append_drop k A, List.map_append, List.sum_append]
  omega

set_option maxHeartbeats 16000000 in
theorem streamHolds_main {c : Int} {a : Option Addr} {len cap : Nat} {A : List A14} (w : World) (hc0 : 0 ≤ c) (hc1 : c ≤ 4096) (hA : Acts14 w w.heap.size a len cap A) (hs : fewB14 A = true) :
    Calls Try.prog 4 #[.int .i64 c, .slice a len cap] w fun e w' => e = .returned (.bool true) ∧ Fr [] w w' := by
  have hle := hA.len_eq
  subst hle
  have HFW := Lib.hid (hs ▸ few14 hA)
  obtain ⟨hl20, hok, hsum⟩ := fewB14_iff hs
  have HOKS := Lib.hid hok
  have H3000 := Lib.hid hsum
  have hl20' : (A.length : Int) ≤ 20 := by omega
  have HNEW := Lib.hid (sf_new c w hc0 hc1)
  have HA0 := Lib.hid hA
  clear hs hok hsum hl20 hA
  go_enter Try.func4, Try.ntmps4
  go_wp2_with fail
  refine HFW.out.mono ?_
  rintro e w' ⟨rfl, rfl⟩
  go_wp2_with fail
  refine HNEW.out.mono ?_
  rintro e w1 ⟨b, F, rfl, g1, hF, h1⟩
  have hst := Lib.hid (show HMem w w1 b (newM c) (.slice none 0 0) [] (.slice none 0 0) [] from ⟨F, h1, hF, .inl ⟨rfl, rfl⟩, Ow.nil _ _ _, fun x _ => ⟨by simp [Value.ownBlock], by simp [Value.ownBlock]⟩, by simp [Value.ownBlock]⟩)
  have ha1 := Lib.hid (HA0.out.keep g1 (Nat.le_refl _) (by simp))
  have hg1 := Lib.hid g1
  clear HFW HNEW h1 hF g1 HA0 F
  go_wp2_with fail
  go_loopw [7, 8, 9, 10, 11] (fun bv rv vf vb vi wr => ∃ (k : Nat) (m : SM) (begun read : List UInt8) (fr : Int), k ≤ A.length ∧ vi = .int .i64 k ∧ vf = .int .i64 fr ∧ vb = .bool m.busy ∧ Hid (HS c m begun read fr ∧ 0 ≤ fr ∧ begun.length ≤ sumB (A.take k)) ∧ Hid (HMem w wr b m bv begun rv read) ∧ Hid (Fr [] w wr) ∧ Hid (Acts14 wr w.heap.size a A.length cap A)) (fun _ _ _ _ i _ => A.length - (intOf i).toNat)
  case atStart => exact ⟨0, newM c, [], [], 0, by omega, rfl, rfl, rfl, Lib.hid ⟨HS.new hc0 hc1, Int.le_refl _, by simp⟩, hst, hg1, ha1⟩
  case round =>
    clear hst hg1 ha1
    obtain ⟨k, m, begun, read, fr, hk, rfl, rfl, rfl, HH, HM, HG, HA⟩ := hrel
    rename World => wr
    by_cases hlt : (k : Int) < A.length
    · have hkA : k < A.length := by omega
      obtain ⟨ab, ao, pa, pl, pc, rfl, habM, hab, i0, i1, i2, hp, hbw, hbn⟩ := HA.out.at_ k hkA
      have hok := HOKS.out A[k] (List.getElem_mem hkA)
      have hsb := sumB_succ hkA
      have HTK := Lib.hid (sumB_take_le (A := A) (k + 1))
      generalize A[k] = ak at i0 i1 i2 hp hbw hbn hok hsb
      obtain ⟨what, ps, n⟩ := ak
      dsimp only at i0 i1 i2 hp hbw hbn hok hsb
      have hpl := hp.len_eq
      subst hpl
      obtain ⟨w5, hw5, f5, q5⟩ : ∃ W', wr.alloc (.cells #[.int .i64 what, .slice pa ps.length pc, .int .i64 n] 55) = W' ∧ Fr [] wr W' ∧ W'.heap[wr.heap.size]? = some (.cells #[.int .i64 what, .slice pa ps.length pc, .int .i64 n] 55 (0, 0)) := ⟨_, rfl, (Fr.refl _ _).alloc _, newA rfl⟩
      have e0 : w5.cell? ⟨wr.heap.size, 0, none⟩ = some (.int .i64 what) := cell_of q5
      have e1 : w5.cell? ⟨wr.heap.size, 1, none⟩ = some (.slice pa ps.length pc) := cell_of q5
      have e2 : w5.cell? ⟨wr.heap.size, 2, none⟩ = some (.int .i64 n) := cell_of q5
      have HQ5 := Lib.hid q5
      have HM5 := Lib.hid (HM.out.keep0 f5)
      have HF5 := Lib.hid f5
      have HG5 := Lib.hid (HG.out.then0 f5)
      have HA5 := Lib.hid (HA.out.keep f5 HG.out.size (by simp))
      have HPP := Lib.hid (hp.keep f5 (by simp))
      have HOK := Lib.hid hok
      have HSB := Lib.hid hsb
      have hz5 := lt_of_heap q5
      have hgs := HG.out.size
      have hab5 : ab < w5.heap.size := by have := f5.size; omega
      clear q5 f5 hp hok hsb HG HA
      go_upto_block 2 with fail
      clear i0 i1 i2
      go_cut [7, 8, 9, 10] (fun bv2 rv2 vf2 vb2 wx => ∃ (m2 : SM) (begun2 read2 : List UInt8) (fr2 : Int), vf2 = .int .i64 fr2 ∧ vb2 = .bool m2.busy ∧ Hid (HS c m2 begun2 read2 fr2 ∧ 0 ≤ fr2 ∧ begun2.length ≤ sumB (A.take (k + 1))) ∧ Hid (HMem w wx b m2 bv2 begun2 rv2 read2) ∧ Hid (Fr [] w wx) ∧ Hid (Acts14 wx w.heap.size (some ⟨ab, ao, none⟩) A.length cap A))
      case first =>
        rcases Bool.eq_false_or_eq_true (what == 0) with q0 | q0
        · obtain rfl : what = 0 := by simpa using q0
          as_aux_lemma =>
            obtain ⟨_, _, _, pbx, owx, _⟩ := HM5.out
            obtain ⟨ba, bc, rfl, hbc0, _, _, _⟩ := pbx.sl
            obtain ⟨ra0, rc0, rfl, _⟩ := owx.formB
            clear pbx owx hbc0
            obtain ⟨F, hF0, hFM, pb0, ow0, hd1, hd2⟩ := HM.out
            have hlt := hF0.lt
            have hF := hF0.keep0 HF5.out
            have pb := pb0.keep HF5.out (by simp)
            have ow := ow0.keep HF5.out (by simp)
            have hbox : ∀ x, F x → x ≠ wr.heap.size := fun x hx e => by have := hlt x hx; omega
            have HMC := Lib.hid fun w' (h : SFP w5 F b (beginM m ps.flatten).m w') => HMem.call HG5.out.size hFM pb ow hd1 hd2 h
            have HBX := Lib.hid fun w' (h : SFP w5 F b (beginM m ps.flatten).m w') => (show w'.heap[wr.heap.size]? = some (.cells #[.int .i64 0, .slice pa ps.length pc, .int .i64 n] 55 (0, 0)) from by obtain ⟨⟨S, hS, f⟩, _⟩ := h; exact f.keep HQ5.out (fun hm => by rcases hS _ hm with h | h; exact hbox _ h rfl; omega))
            have hFl := hF.lt
            have HC := Lib.hid fun (w8 : World) (v : Value) (f : Fr [] w5 w8) (hr : Rp w8 (fun x => w5.heap.size ≤ x) v (own ps)) => (show Calls Try.prog 29 #[.pointer (some ⟨b, 0, none⟩), v] w8 fun e w' => e = .returned (.int .i64 (beginM m ps.flatten).err) ∧ SFP w5 F b (beginM m ps.flatten).m w' from by
              have h := sf_begin (hF.keep0 f) hr (fun x hx hn => by have := hFl x hx; omega)
              rw [own_flat] at h
              refine h.mono ?_
              rintro e w' ⟨he, ⟨S, hS, f9⟩, F', hF', h9⟩
              have hz := f.size
              refine ⟨he, ⟨S, fun x hx => .inl (hS x hx), f.trans f9 (by simp) (fun x hx => .inl hx)⟩, F', fun x hx => ?_, h9⟩
              rcases hF' x hx with h | ⟨h, _⟩ | h
              · exact .inl h
              · exact .inr h
              · exact .inr (by omega))
            have HPM := Lib.hid fun w' (h : SFP w5 F b (beginM m ps.flatten).m w') => (show ∀ w2, Fr [] w' w2 → Calls Try.prog 31 #[.pointer (some ⟨b, 0, none⟩)] w2 fun e w3 => e = .returned (.tuple #[.int .i64 (beginM m ps.flatten).m.acc, .bool (atEndM (beginM m ps.flatten).m)]) ∧ Fr [] w2 w3 from fun w2 f => by obtain ⟨_, F', _, h'⟩ := h; exact sf_progress (h'.keep0 f))
            clear hFl
            obtain ⟨vs, hvl, hsv, hone, hvp⟩ := HPP.out.at_.vals
            have hps := HOK.out.1
            have htt := HOK.out.2
            have HV := Lib.hid hvp
            have HSV := Lib.hid hsv
            have HONE := Lib.hid hone
            have HVL := Lib.hid hvl
            have HU2 : Hid (Try.prog.underlying 53 = some (.slice 29)) := Lib.hid Try.underlying53
            have HI2 : Hid ((Try.prog.info? 29).map (fun i => (i.zero, i.size, i.bytes)) = some (some (.slice none 0 0), 1, 24)) := Lib.hid (by kernel_rfl)
            have HUU : Hid (Try.prog.underlying 29 = some (.slice 5)) := Lib.hid Try.underlying29
            have HIN : Hid ((Try.prog.info? 5).map (fun i => (i.zero, i.size, i.bytes)) = some (some (.int .u8 0), 1, 1)) := Lib.hid (by kernel_rfl)
            have H3p : Hid (([] : List Value).length + ps.length ≤ maxLen) := Lib.hid (by unfold maxLen; simp; omega)
            have H4p : Hid ((([] : List Value).length + ps.length) * 24 ≤ 140737488355328) := Lib.hid (by simp; omega)
            have hb3 : begun.length ≤ 3000 := by have := HH.out.2.2; have := H3000.out; have := HTK.out; have := HSB.out; omega
            have hln := HH.out.1.tail
            obtain ⟨t1, t2, t3, _, _⟩ := hln
            have hfr0 := HH.out.2.1
            have hx2 : begun.length + ps.flatten.length ≤ 6000 := by have := tot_eq ps; omega
            have H3 : Hid (begun.length + ps.flatten.length ≤ maxLen) := Lib.hid (by unfold maxLen; omega)
            have H4 : Hid ((begun.length + ps.flatten.length) * 1 ≤ 140737488355328) := Lib.hid (by omega)
            have HL1 : Hid (((bi begun).map (Value.int .u8)).length = begun.length) := Lib.hid (by simp [bi_length])
            have HL2 : Hid (((bi ps.flatten).map (Value.int .u8)).length = ps.flatten.length) := Lib.hid (by simp [bi_length])
            have HO := Lib.hid (bytes_one (bi ps.flatten))
            have hfr1 : fr ≤ 3000 := by omega
            have hrl : read.length ≤ 3000 := by omega
            clear hF0 pb0 ow0 hbox hlt hF hFM pb ow hd1 hd2 hvp hsv hone hvl t1 t2 t3 hx2
            go_wp2_with (refine wpList_append_fr _ rfl (.const (.slice none 0 0)) (.tmp 64) 53 rfl 29 (.slice none 0 0) 24 HU2.out HI2.out rfl w5.heap.size (.slice none 0 0) [] (by exact rfl) (Ow.nil _ _ _) pa ps.length pc vs (by exact rfl) HVL.out HSV.out HONE.out H3p.out H4p.out (Nat.le_refl _) ?_)
            intro v6 w6 o6 f6' _
            have f6 : Fr [] w5 w6 := f6'
            clear f6'
            obtain ⟨na, nc, rfl, hnc, hncm, hpa⟩ := PartsAt.copied o6.out HVL.out HV.out f6 (by simp)
            have HNEW := Lib.hid (rope_new (cap := nc) hpa rfl (by omega))
            clear hpa o6 hnc hncm HV HSV HONE HVL HU2 HI2 H3p H4p
            go_wp2_with fail
            refine HNEW.out.mono ?_
            rintro e w7 ⟨f7, he⟩
            rw [if_neg (by have := (show (own ps).length ≤ ps.length from List.length_filter_le _ _); omega), if_neg (by omega)] at he
            obtain ⟨v, rfl, hr⟩ := he
            have hr2 := hr
            obtain ⟨ra, rc, rfl, _⟩ := hr2
            clear HNEW
            obtain ⟨w8, hw8, f8, q8⟩ : ∃ W, w7.alloc (.cells #[.slice ra (own ps).length rc, .int .i64 (tot (own ps))] 57) = W ∧ Fr [] w7 W ∧ W.heap[w7.heap.size]? = some (.cells #[.slice ra (own ps).length rc, .int .i64 (tot (own ps))] 57 (0, 0)) := ⟨_, rfl, (Fr.refl _ _).alloc _, newA rfl⟩
            have r0 : w8.cell? ⟨w7.heap.size, 0, none⟩ = some (.slice ra (own ps).length rc) := cell_of q8
            have r1 : w8.cell? ⟨w7.heap.size, 1, none⟩ = some (.int .i64 (tot (own ps))) := cell_of q8
            have hz6 := f6.size
            have HCB := Lib.hid (HC.out w8 _ ((f6.then0 f7).then0 f8) ((hr.keep f8 (by simp)).mono (fun x hx => by omega)))
            clear HC hr q8 f6 f7 f8 e0 e1 e2
            have hw1 : IntKind.i64.wrap (fr - (read.length : Int)) = fr - read.length := IntWalk.i64_in _ (by omega)
            have hw2 : IntKind.i64.wrap (c - (fr - (read.length : Int))) = c - (fr - read.length) := IntWalk.i64_in _ (by omega)
            go_wp2_with fail
            refine HCB.out.mono ?_
            rintro e w9 ⟨rfl, hp⟩
            obtain ⟨hm9, S9, f59, hS9⟩ := HMC.out w9 hp
            have Q9 := Lib.hid (HBX.out w9 hp)
            have HPQ := Lib.hid (HPM.out w9 hp)
            have g9 := HG5.out.trans f59 (U := []) (by simp) (fun x hx => .inr (hS9 x hx))
            have ha9 := HA5.out.keep f59 HG5.out.size hS9
            have HP9 := Lib.hid (HPP.out.keep f59 hS9)
            have hz9 := g9.size
            have HB9 := Lib.hid (And.intro hm9 (And.intro g9 ha9))
            clear hm9 g9 ha9 f59 hS9 hp HCB HMC HBX HPM r0 r1
            by_cases herr : (beginM m ps.flatten).err = 0
            · obtain ⟨hbw, hb0, hb1⟩ := begin_yes HH.out.1.r herr
              obtain ⟨be1, _, be3⟩ := HH.out.1.begin_ hbw hb0 (x := ps.flatten) (by have := tot_eq ps; omega)
              have hfr := HH.out.1.idle hb0
              subst hfr
              have HBE := Lib.hid (And.intro be1 be3)
              clear be1 be3 hbw
              obtain ⟨bs, hbc⟩ : Sl w9 ba (bi begun) ∧ begun.length ≤ bc := by obtain ⟨_, _, _, h, _⟩ := HB9.out.1; obtain ⟨x1, x2, e, h1, h2, _⟩ := h.sl; injection e with e1 e2 e3; subst e1; subst e3; exact ⟨h2, h1⟩
              have HBS := Lib.hid fun w' (f : Fr [] w9 w') => (sl_keep bs f (by simp)).toV
              clear bs
              have HFA := Lib.hid fun (w' : World) (f : Fr [] w9 w') => (show w'.cell? ⟨wr.heap.size, 1, none⟩ = some (.slice pa ps.length pc) ∧ (Instr.slice 29 (.slice ba begun.length bc) none (some (.int .i64 begun.length)) (some (.int .i64 begun.length))).run Try.prog w' = .ok (.slice ba begun.length begun.length) w' from ⟨cell_of (f.keep Q9.out (by simp)), run_cap hbc w'⟩)
              have HJ := Lib.hid fun w' (f : Fr [] w9 w') => join14 (HP9.out.at_.keep f (by simp)) (len := ps.length) (cap := pc) rfl (by omega) (by omega)
              have HSZ := Lib.hid fun w' (f : Fr [] w9 w') => size14 (HP9.out.at_.keep f (by simp)) (len := ps.length) (cap := pc) rfl (by omega) HP9.out.size
              go_wp2_with fail
              have HEJ := Lib.hid (Go.Proofs.enters_of Try.func30 (by kernel_rfl) rfl)
              have fd : Fr [] w9 w9.drew := (Fr.refl _ _).drew
              refine wp_region_order [(0, true), (1, true), (2, true), (3, true), (4, true), (5, true), (6, false), (7, false), (8, true), (9, true)] (fun w' => Fr [] w9 w') (by kernel_rfl) (by kernel_rfl) fd ?_
              intro OPS HOPS
              have hops := HOPS.out
              try simp only [List.append_eq, List.cons_append, List.nil_append] at hops
              replace HOPS := Lib.hid hops
              clear hops
              refine walkO_take (o := _) (v := ?_) (by rw [HOPS.out]; simp only [List.getElem?_toArray, List.getElem?_cons_succ, List.getElem?_cons_zero]; exact rfl) (Or.inl ⟨rfl, ?_⟩) ?_
              rotate_left
              · (intro w hSw; have hSx := HFA.out _ hSw; (try dsimp only at hSx); clear hSw; go_simp) <;> (with_reducible rfl)
              simp only [Act.put, List.setIfInBounds_toArray, List.set_cons_zero, List.set_cons_succ]
              refine walkO_take (o := _) (v := ?_) (by rw [HOPS.out]; simp only [List.getElem?_toArray, List.getElem?_cons_succ, List.getElem?_cons_zero]; exact rfl) (Or.inl ⟨rfl, ?_⟩) ?_
              rotate_left
              · (intro w hSw; have hSx := HFA.out _ hSw; (try dsimp only at hSx); clear hSw; go_simp) <;> (with_reducible rfl)
              simp only [Act.put, List.setIfInBounds_toArray, List.set_cons_zero, List.set_cons_succ]
              refine walkO_take (o := _) (v := ?_) (by rw [HOPS.out]; simp only [List.getElem?_toArray, List.getElem?_cons_succ, List.getElem?_cons_zero]; exact rfl) (Or.inl ⟨rfl, ?_⟩) ?_
              rotate_left
              · (intro w hSw; have hSx := HFA.out _ hSw; (try dsimp only at hSx); clear hSw; go_simp) <;> (with_reducible rfl)
              simp only [Act.put, List.setIfInBounds_toArray, List.set_cons_zero, List.set_cons_succ]
              refine walkO_take (o := _) (v := ?_) (by rw [HOPS.out]; simp only [List.getElem?_toArray, List.getElem?_cons_succ, List.getElem?_cons_zero]; exact rfl) (Or.inl ⟨rfl, ?_⟩) ?_
              rotate_left
              · (intro w hSw; have hSx := HFA.out _ hSw; (try dsimp only at hSx); clear hSw; go_simp) <;> (with_reducible rfl)
              simp only [Act.put, List.setIfInBounds_toArray, List.set_cons_zero, List.set_cons_succ]
              refine walkO_take (o := _) (v := ?_) (by rw [HOPS.out]; simp only [List.getElem?_toArray, List.getElem?_cons_succ, List.getElem?_cons_zero]; exact rfl) (Or.inl ⟨rfl, ?_⟩) ?_
              rotate_left
              · (intro w hSw; have hSx := HFA.out _ hSw; (try dsimp only at hSx); clear hSw; go_simp) <;> (with_reducible rfl)
              simp only [Act.put, List.setIfInBounds_toArray, List.set_cons_zero, List.set_cons_succ]
              refine walkO_take (o := _) (v := ?_) (by rw [HOPS.out]; simp only [List.getElem?_toArray, List.getElem?_cons_succ, List.getElem?_cons_zero]; exact rfl) (Or.inl ⟨rfl, ?_⟩) ?_
              rotate_left
              · (intro w hSw; have hSx := HFA.out _ hSw; (try dsimp only at hSx); clear hSw; go_simp) <;> (with_reducible rfl)
              simp only [Act.put, List.setIfInBounds_toArray, List.set_cons_zero, List.set_cons_succ]
              refine walkO_call (o := _) (by rw [HOPS.out]; simp only [List.getElem?_toArray, List.getElem?_cons_succ, List.getElem?_cons_zero]; exact rfl) (fun K HK => ?_)
              refine step_call rfl 30 #[(.tmp 87)] #[53] rfl HEJ.out #[.slice pa ps.length pc] (by simp [Act.eval]) (HJ.out _ fd) ?_
              rintro e w10 ⟨vj, rfl, f10, oj⟩
              obtain ⟨ja, jc, rfl, _, _, js, _⟩ := oj.formB
              have g10 := fd.then0 f10
              have hjs := js.toV
              refine ⟨_, rfl, ?_⟩
              refine HK.out (fun w' => Fr [] w9 w') _ _ (fun _ h => h) (g10) ?_
              clear HK K
              simp only [Act.put, List.setIfInBounds_toArray, List.set_cons_zero, List.set_cons_succ]
              refine walkO_call (o := _) (by rw [HOPS.out]; simp only [List.getElem?_toArray, List.getElem?_cons_succ, List.getElem?_cons_zero]; exact rfl) (fun K HK => ?_)
              refine step_append_exact rfl (.tmp 85) (.tmp 88) 29 rfl 5 (.int .u8 0) 1 HUU.out HIN.out rfl ba begun.length ((bi begun).map (Value.int .u8)) rfl HL1.out (HBS.out _ g10) ja ps.flatten.length jc ((bi ps.flatten).map (Value.int .u8)) rfl HL2.out hjs HO.out H3.out H4.out ?_
              intro v11 w11 f11 hor
              have g11 := g10.then0 f11
              refine HK.out (fun w' => Fr [] w9 w') _ _ (fun _ h => h) (g11) ?_
              clear HK K
              try simp only [Act.put, List.setIfInBounds_toArray, List.set_cons_zero, List.set_cons_succ]
              refine walkO_take (o := _) (v := ?_) (by rw [HOPS.out]; simp only [List.getElem?_toArray, List.getElem?_cons_succ, List.getElem?_cons_zero]; exact rfl) (Or.inl ⟨rfl, ?_⟩) ?_
              rotate_left
              · (intro w hSw; have hSx := HFA.out _ hSw; (try dsimp only at hSx); clear hSw; go_simp) <;> (with_reducible rfl)
              simp only [Act.put, List.setIfInBounds_toArray, List.set_cons_zero, List.set_cons_succ]
              refine walkO_take (o := _) (v := ?_) (by rw [HOPS.out]; simp only [List.getElem?_toArray, List.getElem?_cons_succ, List.getElem?_cons_zero]; exact rfl) (Or.inl ⟨rfl, ?_⟩) ?_
              rotate_left
              · (intro w hSw; have hSx := HFA.out _ hSw; (try dsimp only at hSx); clear hSw; go_simp) <;> (with_reducible rfl)
              simp only [Act.put, List.setIfInBounds_toArray, List.set_cons_zero, List.set_cons_succ]
              refine walkO_done ?_
              clear HOPS OPS
              clear HJ HBS HFA H3 H4 HL1 HL2 HO HUU HIN hjs js oj
              go_wp2_with fail
              refine (HPQ.out _ g11).mono ?_
              rintro e w12 ⟨rfl, f12⟩
              have g12 := g11.then0 f12
              have c12 : w12.cell? ⟨wr.heap.size, 1, none⟩ = some (.slice pa ps.length pc) := cell_of (g12.keep Q9.out (by simp))
              have hm12 := (HMem.grown hz9 HB9.out.1 g10 f11 hor).keep0 f12
              have H12 := Lib.hid (And.intro hm12 (And.intro (HB9.out.2.1.then0 g12) (HB9.out.2.2.keep g12 hz9 (by simp))))
              clear hm12
              clear g10 f11 f12 hor g11 HB9 HPQ fd f10 hw8
              go_wp2_with fail
              refine (HSZ.out w12 g12).mono ?_
              rintro e w13 ⟨rfl, rfl⟩
              by_cases hroom : (tot ps : Int) ≤ c - ((begun.length : Int) - read.length)
              · obtain ⟨hacc, hend⟩ := HBE.out.2 hroom
                have hacc2 : (beginM m ps.flatten).m.acc = tot ps := hacc
                rw [hacc2, hend]
                go_wp2_with fail
                refine (HSZ.out w12 g12).mono ?_
                rintro e w13 ⟨rfl, rfl⟩
                go_wp2_with fail
                go_meet
                exact ⟨(beginM m ps.flatten).m, (begun ++ ps.flatten), read, begun.length, rfl, by rw [hb1], Lib.hid ⟨HBE.out.1, by omega, by rw [List.length_append]; have := HH.out.2.2; have := HSB.out; have := tot_eq ps; omega⟩, Lib.hid H12.out.1, Lib.hid H12.out.2.1, Lib.hid H12.out.2.2⟩
              · go_wp2_with fail
                go_meet
                exact ⟨(beginM m ps.flatten).m, (begun ++ ps.flatten), read, begun.length, rfl, by rw [hb1], Lib.hid ⟨HBE.out.1, by omega, by rw [List.length_append]; have := HH.out.2.2; have := HSB.out; have := tot_eq ps; omega⟩, Lib.hid H12.out.1, Lib.hid H12.out.2.1, Lib.hid H12.out.2.2⟩
            · have hbn := begin_no herr
              rw [hbn] at HB9
              have hE0 : ((beginM m ps.flatten).err == 0) = false := by simpa using herr
              go_wp2_with fail
              go_meet
              exact ⟨m, begun, read, fr, rfl, rfl, Lib.hid ⟨HH.out.1, HH.out.2.1, by have := HH.out.2.2; have := HSB.out; omega⟩, Lib.hid HB9.out.1, Lib.hid HB9.out.2.1, Lib.hid HB9.out.2.2⟩
        · skip
          rcases Bool.eq_false_or_eq_true (what == 1) with q1 | q1
          · obtain rfl : what = 1 := by simpa using q1
            as_aux_lemma =>
              obtain ⟨F, hF0, hFM, pb0, ow0, hd1, hd2⟩ := HM.out
              have hlt := hF0.lt
              have hF := hF0.keep0 HF5.out
              have pb := pb0.keep HF5.out (by simp)
              have ow := ow0.keep HF5.out (by simp)
              have hbox : ∀ x, F x → x ≠ wr.heap.size := fun x hx e => by have := hlt x hx; omega
              have HMC := Lib.hid fun w' (h : SFP w5 F b (endM m).m w') => HMem.call HG5.out.size hFM pb ow hd1 hd2 h
              have HBX := Lib.hid fun w' (h : SFP w5 F b (endM m).m w') => (show w'.heap[wr.heap.size]? = some (.cells #[.int .i64 1, .slice pa ps.length pc, .int .i64 n] 55 (0, 0)) from by obtain ⟨⟨S, hS, f⟩, _⟩ := h; exact f.keep HQ5.out (fun hm => by rcases hS _ hm with h | h; exact hbox _ h rfl; omega))
              rcases end_cases HH.out.1.r with ⟨hE, hbz⟩ | hE | ⟨hbz, hE | hE⟩
              · have HC := Lib.hid (sf_end hF)
                rw [hE] at HC HMC
                clear hF0 pb0 ow0 hbox hlt hF hFM pb ow hd1 hd2
                go_wp2_with fail
                refine HC.out.mono ?_
                rintro e w6 ⟨rfl, hp⟩
                obtain ⟨hm6, S, f6, hS⟩ := HMC.out w6 hp
                have g6 := HG5.out.trans f6 (U := []) (by simp) (fun x hx => .inr (hS x hx))
                have ha6 := HA5.out.keep f6 HG5.out.size hS
                have H6 := Lib.hid (And.intro hm6 (And.intro g6 ha6))
                clear hp hm6 g6 ha6 f6 hS HC HMC HBX
                go_wp2_with fail
                go_roundw
                case rel => exact ⟨k + 1, m, begun, read, fr, by omega, by go_num, rfl, by first | rfl | rw [hbz], Lib.hid ⟨HH.out.1, HH.out.2.1, by have := HH.out.2.2; have := HSB.out; omega⟩, Lib.hid H6.out.1, Lib.hid H6.out.2.1, Lib.hid H6.out.2.2⟩
                case measure => simp [intOf]; omega
              · have HC := Lib.hid (sf_end hF)
                rw [hE] at HC HMC
                clear hF0 pb0 ow0 hbox hlt hF hFM pb ow hd1 hd2
                go_wp2_with fail
                refine HC.out.mono ?_
                rintro e w6 ⟨rfl, hp⟩
                obtain ⟨hm6, S, f6, hS⟩ := HMC.out w6 hp
                have g6 := HG5.out.trans f6 (U := []) (by simp) (fun x hx => .inr (hS x hx))
                have ha6 := HA5.out.keep f6 HG5.out.size hS
                have H6 := Lib.hid (And.intro hm6 (And.intro g6 ha6))
                clear hp hm6 g6 ha6 f6 hS HC HMC HBX
                go_wp2_with fail
                go_roundw
                case rel => exact ⟨k + 1, m, begun, read, fr, by omega, by go_num, rfl, by first | rfl | rw [hbz], Lib.hid ⟨HH.out.1, HH.out.2.1, by have := HH.out.2.2; have := HSB.out; omega⟩, Lib.hid H6.out.1, Lib.hid H6.out.2.1, Lib.hid H6.out.2.2⟩
                case measure => simp [intOf]; omega
              · have HC := Lib.hid (sf_end hF)
                rw [hE] at HC HMC
                clear hF0 pb0 ow0 hbox hlt hF hFM pb ow hd1 hd2
                go_wp2_with fail
                refine HC.out.mono ?_
                rintro e w6 ⟨rfl, hp⟩
                obtain ⟨hm6, S, f6, hS⟩ := HMC.out w6 hp
                have g6 := HG5.out.trans f6 (U := []) (by simp) (fun x hx => .inr (hS x hx))
                have ha6 := HA5.out.keep f6 HG5.out.size hS
                have H6 := Lib.hid (And.intro hm6 (And.intro g6 ha6))
                clear hp hm6 g6 ha6 f6 hS HC HMC HBX
                obtain ⟨F6, hF6, _, pb6, _, _, _⟩ := H6.out.1
                obtain ⟨ba, bc, rfl, hbc, _, _, _⟩ := pb6.sl
                clear hF6 pb6
                have hS := HH.out.1.stop
                obtain ⟨t1, t2, t3, t4, t5⟩ := HH.out.1.tail
                have hfr0 := HH.out.2.1
                have hb3 : begun.length ≤ 3000 := by have := HH.out.2.2; have := H3000.out; have := HTK.out; have := HSB.out; omega
                obtain ⟨g, hg⟩ : ∃ g : Nat, fr + m.acc = g := ⟨(fr + m.acc).toNat, by omega⟩
                have hgb : g ≤ begun.length := by omega
                have hup : ∀ w', (Instr.slice 29 (.slice ba begun.length bc) none (some (.int .i64 (fr + m.acc))) none).run Try.prog w' = .ok (.slice ba g bc) w' := by rw [hg]; exact run_upto hgb hbc
                have HG := Lib.hid (H6.out.1.cut hgb hbc)
                have HSS := Lib.hid hS
                clear hS t4
                go_wp2_with fail
                go_meet
                exact ⟨(stopM m), (begun.take g), read, (fr + m.acc), by first | rfl | rw [hg], rfl, Lib.hid ⟨by have := HSS.out; rw [hg] at this ⊢; exact this, by omega, by rw [List.length_take]; have := HH.out.2.2; have := HSB.out; omega⟩, Lib.hid HG.out, Lib.hid H6.out.2.1, Lib.hid H6.out.2.2⟩
              · have HC := Lib.hid (sf_end hF)
                rw [hE] at HC HMC
                clear hF0 pb0 ow0 hbox hlt hF hFM pb ow hd1 hd2
                go_wp2_with fail
                refine HC.out.mono ?_
                rintro e w6 ⟨rfl, hp⟩
                obtain ⟨hm6, S, f6, hS⟩ := HMC.out w6 hp
                have g6 := HG5.out.trans f6 (U := []) (by simp) (fun x hx => .inr (hS x hx))
                have ha6 := HA5.out.keep f6 HG5.out.size hS
                have H6 := Lib.hid (And.intro hm6 (And.intro g6 ha6))
                clear hp hm6 g6 ha6 f6 hS HC HMC HBX
                obtain ⟨F6, hF6, _, pb6, _, _, _⟩ := H6.out.1
                obtain ⟨ba, bc, rfl, hbc, _, _, _⟩ := pb6.sl
                clear hF6 pb6
                have hS := HH.out.1.stop
                obtain ⟨t1, t2, t3, t4, t5⟩ := HH.out.1.tail
                have hfr0 := HH.out.2.1
                have hb3 : begun.length ≤ 3000 := by have := HH.out.2.2; have := H3000.out; have := HTK.out; have := HSB.out; omega
                obtain ⟨g, hg⟩ : ∃ g : Nat, fr + m.acc = g := ⟨(fr + m.acc).toNat, by omega⟩
                have hgb : g ≤ begun.length := by omega
                have hup : ∀ w', (Instr.slice 29 (.slice ba begun.length bc) none (some (.int .i64 (fr + m.acc))) none).run Try.prog w' = .ok (.slice ba g bc) w' := by rw [hg]; exact run_upto hgb hbc
                have HG := Lib.hid (H6.out.1.cut hgb hbc)
                have HSS := Lib.hid hS
                clear hS t4
                go_wp2_with fail
                go_meet
                exact ⟨(stopM m), (begun.take g), read, (fr + m.acc), by first | rfl | rw [hg], rfl, Lib.hid ⟨by have := HSS.out; rw [hg] at this ⊢; exact this, by omega, by rw [List.length_take]; have := HH.out.2.2; have := HSB.out; omega⟩, Lib.hid HG.out, Lib.hid H6.out.2.1, Lib.hid H6.out.2.2⟩
          · skip
            rcases Bool.eq_false_or_eq_true (what == 2) with q2 | q2
            · obtain rfl : what = 2 := by simpa using q2
              as_aux_lemma =>
                obtain ⟨F, hF0, hFM, pb0, ow0, hd1, hd2⟩ := HM.out
                have hlt := hF0.lt
                have hF := hF0.keep0 HF5.out
                have pb := pb0.keep HF5.out (by simp)
                have ow := ow0.keep HF5.out (by simp)
                have hbox : ∀ x, F x → x ≠ wr.heap.size := fun x hx e => by have := hlt x hx; omega
                have HMC := Lib.hid fun w' (h : SFP w5 F b (cancelM m).m w') => HMem.call HG5.out.size hFM pb ow hd1 hd2 h
                have HBX := Lib.hid fun w' (h : SFP w5 F b (cancelM m).m w') => (show w'.heap[wr.heap.size]? = some (.cells #[.int .i64 2, .slice pa ps.length pc, .int .i64 n] 55 (0, 0)) from by obtain ⟨⟨S, hS, f⟩, _⟩ := h; exact f.keep HQ5.out (fun hm => by rcases hS _ hm with h | h; exact hbox _ h rfl; omega))
                rcases cancel_cases m with ⟨hE, hbz⟩ | hE | ⟨hbz, hE | hE⟩
                · have HC := Lib.hid (sf_cancel hF)
                  rw [hE] at HC HMC
                  clear hF0 pb0 ow0 hbox hlt hF hFM pb ow hd1 hd2
                  go_wp2_with fail
                  refine HC.out.mono ?_
                  rintro e w6 ⟨rfl, hp⟩
                  obtain ⟨hm6, S, f6, hS⟩ := HMC.out w6 hp
                  have g6 := HG5.out.trans f6 (U := []) (by simp) (fun x hx => .inr (hS x hx))
                  have ha6 := HA5.out.keep f6 HG5.out.size hS
                  have H6 := Lib.hid (And.intro hm6 (And.intro g6 ha6))
                  clear hp hm6 g6 ha6 f6 hS HC HMC HBX
                  go_wp2_with fail
                  go_roundw
                  case rel => exact ⟨k + 1, m, begun, read, fr, by omega, by go_num, rfl, by first | rfl | rw [hbz], Lib.hid ⟨HH.out.1, HH.out.2.1, by have := HH.out.2.2; have := HSB.out; omega⟩, Lib.hid H6.out.1, Lib.hid H6.out.2.1, Lib.hid H6.out.2.2⟩
                  case measure => simp [intOf]; omega
                · have HC := Lib.hid (sf_cancel hF)
                  rw [hE] at HC HMC
                  clear hF0 pb0 ow0 hbox hlt hF hFM pb ow hd1 hd2
                  go_wp2_with fail
                  refine HC.out.mono ?_
                  rintro e w6 ⟨rfl, hp⟩
                  obtain ⟨hm6, S, f6, hS⟩ := HMC.out w6 hp
                  have g6 := HG5.out.trans f6 (U := []) (by simp) (fun x hx => .inr (hS x hx))
                  have ha6 := HA5.out.keep f6 HG5.out.size hS
                  have H6 := Lib.hid (And.intro hm6 (And.intro g6 ha6))
                  clear hp hm6 g6 ha6 f6 hS HC HMC HBX
                  go_wp2_with fail
                  go_roundw
                  case rel => exact ⟨k + 1, m, begun, read, fr, by omega, by go_num, rfl, by first | rfl | rw [hbz], Lib.hid ⟨HH.out.1, HH.out.2.1, by have := HH.out.2.2; have := HSB.out; omega⟩, Lib.hid H6.out.1, Lib.hid H6.out.2.1, Lib.hid H6.out.2.2⟩
                  case measure => simp [intOf]; omega
                · have HC := Lib.hid (sf_cancel hF)
                  rw [hE] at HC HMC
                  clear hF0 pb0 ow0 hbox hlt hF hFM pb ow hd1 hd2
                  go_wp2_with fail
                  refine HC.out.mono ?_
                  rintro e w6 ⟨rfl, hp⟩
                  obtain ⟨hm6, S, f6, hS⟩ := HMC.out w6 hp
                  have g6 := HG5.out.trans f6 (U := []) (by simp) (fun x hx => .inr (hS x hx))
                  have ha6 := HA5.out.keep f6 HG5.out.size hS
                  have H6 := Lib.hid (And.intro hm6 (And.intro g6 ha6))
                  clear hp hm6 g6 ha6 f6 hS HC HMC HBX
                  obtain ⟨F6, hF6, _, pb6, _, _, _⟩ := H6.out.1
                  obtain ⟨ba, bc, rfl, hbc, _, _, _⟩ := pb6.sl
                  clear hF6 pb6
                  have hS := HH.out.1.stop
                  obtain ⟨t1, t2, t3, t4, t5⟩ := HH.out.1.tail
                  have hfr0 := HH.out.2.1
                  have hb3 : begun.length ≤ 3000 := by have := HH.out.2.2; have := H3000.out; have := HTK.out; have := HSB.out; omega
                  obtain ⟨g, hg⟩ : ∃ g : Nat, fr + m.acc = g := ⟨(fr + m.acc).toNat, by omega⟩
                  have hgb : g ≤ begun.length := by omega
                  have hup : ∀ w', (Instr.slice 29 (.slice ba begun.length bc) none (some (.int .i64 (fr + m.acc))) none).run Try.prog w' = .ok (.slice ba g bc) w' := by rw [hg]; exact run_upto hgb hbc
                  have HG := Lib.hid (H6.out.1.cut hgb hbc)
                  have HSS := Lib.hid hS
                  clear hS t4
                  go_wp2_with fail
                  go_meet
                  exact ⟨(stopM m), (begun.take g), read, (fr + m.acc), by first | rfl | rw [hg], rfl, Lib.hid ⟨by have := HSS.out; rw [hg] at this ⊢; exact this, by omega, by rw [List.length_take]; have := HH.out.2.2; have := HSB.out; omega⟩, Lib.hid HG.out, Lib.hid H6.out.2.1, Lib.hid H6.out.2.2⟩
                · have HC := Lib.hid (sf_cancel hF)
                  rw [hE] at HC HMC
                  clear hF0 pb0 ow0 hbox hlt hF hFM pb ow hd1 hd2
                  go_wp2_with fail
                  refine HC.out.mono ?_
                  rintro e w6 ⟨rfl, hp⟩
                  obtain ⟨hm6, S, f6, hS⟩ := HMC.out w6 hp
                  have g6 := HG5.out.trans f6 (U := []) (by simp) (fun x hx => .inr (hS x hx))
                  have ha6 := HA5.out.keep f6 HG5.out.size hS
                  have H6 := Lib.hid (And.intro hm6 (And.intro g6 ha6))
                  clear hp hm6 g6 ha6 f6 hS HC HMC HBX
                  obtain ⟨F6, hF6, _, pb6, _, _, _⟩ := H6.out.1
                  obtain ⟨ba, bc, rfl, hbc, _, _, _⟩ := pb6.sl
                  clear hF6 pb6
                  have hS := HH.out.1.stop
                  obtain ⟨t1, t2, t3, t4, t5⟩ := HH.out.1.tail
                  have hfr0 := HH.out.2.1
                  have hb3 : begun.length ≤ 3000 := by have := HH.out.2.2; have := H3000.out; have := HTK.out; have := HSB.out; omega
                  obtain ⟨g, hg⟩ : ∃ g : Nat, fr + m.acc = g := ⟨(fr + m.acc).toNat, by omega⟩
                  have hgb : g ≤ begun.length := by omega
                  have hup : ∀ w', (Instr.slice 29 (.slice ba begun.length bc) none (some (.int .i64 (fr + m.acc))) none).run Try.prog w' = .ok (.slice ba g bc) w' := by rw [hg]; exact run_upto hgb hbc
                  have HG := Lib.hid (H6.out.1.cut hgb hbc)
                  have HSS := Lib.hid hS
                  clear hS t4
                  go_wp2_with fail
                  go_meet
                  exact ⟨(stopM m), (begun.take g), read, (fr + m.acc), by first | rfl | rw [hg], rfl, Lib.hid ⟨by have := HSS.out; rw [hg] at this ⊢; exact this, by omega, by rw [List.length_take]; have := HH.out.2.2; have := HSB.out; omega⟩, Lib.hid HG.out, Lib.hid H6.out.2.1, Lib.hid H6.out.2.2⟩
            · skip
              rcases Bool.eq_false_or_eq_true (what == 3) with q3 | q3
              · obtain rfl : what = 3 := by simpa using q3
                as_aux_lemma =>
                  obtain ⟨F, hF0, hFM, pb0, ow0, hd1, hd2⟩ := HM.out
                  have hlt := hF0.lt
                  have hF := hF0.keep0 HF5.out
                  have pb := pb0.keep HF5.out (by simp)
                  have ow := ow0.keep HF5.out (by simp)
                  have hbox : ∀ x, F x → x ≠ wr.heap.size := fun x hx e => by have := hlt x hx; omega
                  have HMC := Lib.hid fun w' (h : SFP w5 F b (readM m n).m w') => HMem.call HG5.out.size hFM pb ow hd1 hd2 h
                  have HBX := Lib.hid fun w' (h : SFP w5 F b (readM m n).m w') => (show w'.heap[wr.heap.size]? = some (.cells #[.int .i64 3, .slice pa ps.length pc, .int .i64 n] 55 (0, 0)) from by obtain ⟨⟨S, hS, f⟩, _⟩ := h; exact f.keep HQ5.out (fun hm => by rcases hS _ hm with h | h; exact hbox _ h rfl; omega))
                  have HC := Lib.hid (sf_readP hF n)
                  have hx := HH.out.1.read_ n
                  have hxb := read_busy m n
                  clear hF0 pb0 ow0 hbox hlt hF hFM pb ow hd1 hd2
                  go_wp2_with fail
                  refine HC.out.mono ?_
                  rintro e w6 ⟨u, rfl, ou, hp⟩
                  obtain ⟨hm6, S, f6, hS⟩ := HMC.out w6 hp
                  have q6 := HBX.out w6 hp
                  have e2' : w6.cell? ⟨wr.heap.size, 2, none⟩ = some (.int .i64 n) := cell_of q6
                  clear hp HC HMC HBX e0 e1 e2 q6
                  generalize (readM m n).out = O at *
                  generalize (readM m n).err = E at *
                  generalize (readM m n).m = m6 at *
                  obtain ⟨x1, x2, x3⟩ := hx
                  obtain ⟨ua, uc, rfl, huc, _, us, _⟩ := ou.formB
                  have hsv := us.toV
                  have g6 := HG5.out.trans f6 (U := []) (by simp) (fun x hx => .inr (hS x hx))
                  have ha6 := HA5.out.keep f6 HG5.out.size hS
                  have ow6 := hm6
                  obtain ⟨F6, _, _, _, ow6, _, _⟩ := ow6
                  obtain ⟨ra, rc, rfl, _⟩ := ow6.formB
                  have hz6 := g6.size
                  have hln := x1.len
                  have hb3 : begun.length ≤ 3000 := by have := HH.out.2.2; have := H3000.out; have := HTK.out; have := HSB.out; omega
                  have hrl : read.length + O.length ≤ 3000 := by rw [List.length_append] at hln; omega
                  have x2' : E = 0 ∨ (E ≠ 0 ∧ O.length = 0) := by by_cases h : E = 0; exact .inl h; exact .inr ⟨h, by rw [x2 h]; rfl⟩
                  have HX := Lib.hid (And.intro x1 (And.intro hm6 (And.intro g6 (And.intro ha6 (And.intro hxb hm6)))))
                  have HU := Lib.hid hsv
                  have HOW := Lib.hid ow6
                  have h0s : ¬ ((0 : Int) < O.length ∧ E ≠ 0) := by omega
                  have x3' := x3
                  clear x1 x2 hm6 g6 ha6 hxb hsv us ou ow6 f6 hS hln
                  have H3 : Hid (((bi read).map (Value.int .u8)).length + O.length ≤ maxLen) := Lib.hid (by rw [List.length_map, bi_length]; unfold maxLen; omega)
                  have H4 : Hid ((((bi read).map (Value.int .u8)).length + O.length) * 1 ≤ 140737488355328) := Lib.hid (by rw [List.length_map, bi_length]; omega)
                  have H5 : Hid (((bi O).map (Value.int .u8)).length = O.length) := Lib.hid (by simp [bi_length])
                  have HO := Lib.hid (bytes_one (bi O))
                  have HUU : Hid (Try.prog.underlying 29 = some (.slice 5)) := Lib.hid Try.underlying29
                  have HIN : Hid ((Try.prog.info? 5).map (fun i => (i.zero, i.size, i.bytes)) = some (some (.int .u8 0), 1, 1)) := Lib.hid (by kernel_rfl)
                  have hc1 : ((O.length : Int) > max 0 n) = False := by simp; omega
                  rcases x2' with rfl | ⟨hEn, hO0⟩
                  · skip
                    go_wp2_with (refine wpList_append_fr _ rfl (.tmp 186) (.tmp 187) 29 rfl 5 (.int .u8 0) 1 HUU.out HIN.out rfl w.heap.size _ _ (by exact rfl) HOW.out ua O.length uc _ (by exact rfl) H5.out HU.out HO.out H3.out H4.out hz6 ?_)
                    intro v7 w7 o7 f7 hb7
                    have hm7 := HMem.app hz6 HX.out.2.1 o7.out f7 hb7
                    have g7 := HX.out.2.2.1.own f7 (fun k e => .inr (HOW.out.lt k e).1)
                    have ha7 := HX.out.2.2.2.1.keep f7 hz6 (fun x hx => (HOW.out.lt x (by simpa using hx)).1)
                    have H7 := Lib.hid (And.intro hm7 (And.intro g7 ha7))
                    clear hm7 g7 ha7 hb7
                    go_wp2_with fail
                    go_meet
                    exact ⟨m6, begun, (read ++ O), fr, rfl, by rw [HX.out.2.2.2.2.1], Lib.hid ⟨HX.out.1, HH.out.2.1, by have := HH.out.2.2; have := HSB.out; omega⟩, Lib.hid H7.out.1, Lib.hid H7.out.2.1, Lib.hid H7.out.2.2⟩
                  · obtain rfl : O = [] := List.eq_nil_of_length_eq_zero hO0
                    clear hO0 hc1 h0s x3'
                    go_wp2_with (refine wpList_append_fr _ rfl (.tmp 186) (.tmp 187) 29 rfl 5 (.int .u8 0) 1 HUU.out HIN.out rfl w.heap.size _ _ (by exact rfl) HOW.out ua 0 uc _ (by exact rfl) H5.out HU.out HO.out H3.out H4.out hz6 ?_)
                    intro v7 w7 o7 f7 hb7
                    have hm7 := HMem.app hz6 HX.out.2.1 o7.out f7 hb7
                    have g7 := HX.out.2.2.1.own f7 (fun k e => .inr (HOW.out.lt k e).1)
                    have ha7 := HX.out.2.2.2.1.keep f7 hz6 (fun x hx => (HOW.out.lt x (by simpa using hx)).1)
                    have H7 := Lib.hid (And.intro hm7 (And.intro g7 ha7))
                    clear hm7 g7 ha7 hb7
                    go_wp2_with fail
                    go_meet
                    exact ⟨m6, begun, (read ++ []), fr, rfl, by rw [HX.out.2.2.2.2.1], Lib.hid ⟨HX.out.1, HH.out.2.1, by have := HH.out.2.2; have := HSB.out; omega⟩, Lib.hid H7.out.1, Lib.hid H7.out.2.1, Lib.hid H7.out.2.2⟩
              · skip
                rcases Bool.eq_false_or_eq_true (what == 4) with q4 | q4
                · obtain rfl : what = 4 := by simpa using q4
                  as_aux_lemma =>
                    obtain ⟨F, hF0, hFM, pb0, ow0, hd1, hd2⟩ := HM.out
                    have hlt := hF0.lt
                    have hF := hF0.keep0 HF5.out
                    have pb := pb0.keep HF5.out (by simp)
                    have ow := ow0.keep HF5.out (by simp)
                    have hbox : ∀ x, F x → x ≠ wr.heap.size := fun x hx e => by have := hlt x hx; omega
                    have HMC := Lib.hid fun w' (h : SFP w5 F b (closewM m n).m w') => HMem.call HG5.out.size hFM pb ow hd1 hd2 h
                    have HBX := Lib.hid fun w' (h : SFP w5 F b (closewM m n).m w') => (show w'.heap[wr.heap.size]? = some (.cells #[.int .i64 4, .slice pa ps.length pc, .int .i64 n] 55 (0, 0)) from by obtain ⟨⟨S, hS, f⟩, _⟩ := h; exact f.keep HQ5.out (fun hm => by rcases hS _ hm with h | h; exact hbox _ h rfl; omega))
                    have HC := Lib.hid (sf_closew hF n)
                    clear hF0 pb0 ow0 hbox hlt hF hFM pb ow hd1 hd2
                    go_wp2_with fail
                    refine HC.out.mono ?_
                    rintro e w6 ⟨rfl, hp⟩
                    obtain ⟨hm6, S, f6, hS⟩ := HMC.out w6 hp
                    have H6 := Lib.hid (And.intro hm6 (And.intro f6 hS))
                    clear hp hm6 f6 hS HC HMC HBX
                    go_wp2_with fail
                    go_meet
                    exact ⟨(closewM m n).m, begun, read, fr, rfl, by rw [closew_busy], Lib.hid ⟨HH.out.1.closew n, HH.out.2.1, by have := HH.out.2.2; have := HSB.out; omega⟩, Lib.hid H6.out.1, Lib.hid (HG5.out.trans H6.out.2.1 (U := []) (by simp) (fun x hx => .inr (H6.out.2.2 x hx))), Lib.hid (HA5.out.keep H6.out.2.1 HG5.out.size H6.out.2.2)⟩
                · skip
                  as_aux_lemma =>
                    go_wp2_with fail
                    go_meet
                    exact ⟨m, begun, read, fr, rfl, rfl, Lib.hid ⟨HH.out.1, HH.out.2.1, by have := HH.out.2.2; have := HSB.out; omega⟩, Lib.hid HM5.out, Lib.hid HG5.out, Lib.hid HA5.out⟩
      case rest =>
        as_aux_lemma =>
          clear e0 e1 e2 hw5 HQ5 HM5 HG5 HA5 HPP HOK HSB HH HM HF5
          rename World => w6
          obtain ⟨m, begun, read, fr, rfl, rfl, HH, HM, HG, HA⟩ := hcut
          obtain ⟨F, hF, hFM, pb, ow, hd1, hd2⟩ := HM.out
          have HP := Lib.hid fun w1 (f : Fr [] w6 w1) => sf_progress (hF.keep0 f)
          obtain ⟨ba, bc, rfl, hbc, bs, _, _⟩ := pb.sl
          obtain ⟨ra, rc, rfl, hrc, _, rs, _⟩ := ow.formB
          have hT := HH.out.1.tail
          have hl := HH.out.1.len
          have hb3 : begun.length ≤ 3000 := by have := HH.out.2.2; have := H3000.out; have := HTK.out; omega
          have hfr0 := HH.out.2.1
          obtain ⟨t1, t2, t3, t4, t5⟩ := hT
          have hrl : read.length ≤ begun.length := by omega
          have HFA := Lib.hid fun (w' : World) (f : Fr [] w6 w') => (show (∀ cp, (convert 29 9 (.slice ra read.length cp)).run Try.prog w' = .ok (.string (st read)) w') ∧ (∀ cp, (convert 29 9 (.slice ba read.length cp)).run Try.prog w' = .ok (.string (st read)) w') ∧ (Instr.slice 29 (.slice ba begun.length bc) none (some (.int .i64 read.length)) none).run Try.prog w' = .ok (.slice ba read.length bc) w' from ⟨fun cp => conv_st (cap := cp) (sl_keep rs f (by simp)) rfl, fun cp => conv_st (cap := cp) (by rw [← t4]; simpa [bi_take] using (sl_keep bs f (by simp)).take read.length) rfl, run_upto hrl hbc w'⟩)
          have ac0 : 0 ≤ fr + m.acc ∧ fr + m.acc ≤ 3000 := by omega
          have hwr : IntKind.i64.wrap (fr + m.acc - (read.length : Int)) = fr + m.acc - read.length := IntWalk.i64_in _ (by omega)
          have hb0 : (fr + m.acc - (read.length : Int) > c) = False := by simp; omega
          have d1 : decide (m.acc < 0) = false := by simp; omega
          have d2 : decide ((begun.length : Int) < fr + m.acc) = false := by simp; omega
          have d3 : decide (fr + m.acc < (read.length : Int)) = false := by simp; omega
          have d4 := st_self14 read
          have d5 : decide (c < fr + m.acc - (read.length : Int)) = false := by simp; omega
          have HTT := Lib.hid (And.intro t4 t5)
          clear pb ow hd1 hd2 bs rs t4 t5 hl hb0 hF hFM
          go_wp2_with fail
          refine (HP.out _ (Fr.refl _ _)).mono ?_
          rintro e w7 ⟨rfl, f7⟩
          have HF7 := Lib.hid f7
          go_wp2_with fail
          have fd : Fr [] w6 w7.drew := HF7.out.drew
          refine wp_region_order [(0, true), (1, true), (2, true), (3, true), (4, true), (5, true), (6, true), (7, true), (8, true), (9, true), (10, true), (11, true), (12, true), (13, true), (14, true), (15, true), (16, true), (17, true), (18, true), (19, true), (20, true), (21, true), (22, true), (23, true), (24, true), (25, true), (26, true), (27, true), (28, true), (29, true), (30, true), (31, true)] (fun w' => Fr [] w6 w') (by kernel_rfl) (by kernel_rfl) fd ?_
          intro OPS HOPS
          have hops := HOPS.out
          try simp only [List.append_eq, List.cons_append, List.nil_append] at hops
          replace HOPS := Lib.hid hops
          clear hops
          refine walkO_take (o := _) (v := ?_) (by rw [HOPS.out]; simp only [List.getElem?_toArray, List.getElem?_cons_succ, List.getElem?_cons_zero]; exact rfl) (Or.inl ⟨rfl, ?_⟩) ?_
          rotate_left
          · (intro w hSw; have hSx := HFA.out _ hSw; (try dsimp only at hSx); clear hSw; go_simp) <;> (with_reducible rfl)
          simp only [Act.put, List.setIfInBounds_toArray, List.set_cons_zero, List.set_cons_succ]
          refine walkO_take (o := _) (v := ?_) (by rw [HOPS.out]; simp only [List.getElem?_toArray, List.getElem?_cons_succ, List.getElem?_cons_zero]; exact rfl) (Or.inl ⟨rfl, ?_⟩) ?_
          rotate_left
          · (intro w hSw; have hSx := HFA.out _ hSw; (try dsimp only at hSx); clear hSw; go_simp) <;> (with_reducible rfl)
          simp only [Act.put, List.setIfInBounds_toArray, List.set_cons_zero, List.set_cons_succ]
          refine walkO_take (o := _) (v := ?_) (by rw [HOPS.out]; simp only [List.getElem?_toArray, List.getElem?_cons_succ, List.getElem?_cons_zero]; exact rfl) (Or.inl ⟨rfl, ?_⟩) ?_
          rotate_left
          · (intro w hSw; have hSx := HFA.out _ hSw; (try dsimp only at hSx); clear hSw; go_simp) <;> (with_reducible rfl)
          simp only [Act.put, List.setIfInBounds_toArray, List.set_cons_zero, List.set_cons_succ]
          refine walkO_take (o := _) (v := ?_) (by rw [HOPS.out]; simp only [List.getElem?_toArray, List.getElem?_cons_succ, List.getElem?_cons_zero]; exact rfl) (Or.inl ⟨by rw [HOPS.out]; rfl, ?_⟩) ?_
          rotate_left
          · (intro w hSw; have hSx := HFA.out _ hSw; (try dsimp only at hSx); clear hSw; go_simp) <;> (with_reducible rfl)
          simp only [Act.put, List.setIfInBounds_toArray, List.set_cons_zero, List.set_cons_succ]
          refine walkO_take (o := _) (v := ?_) (by rw [HOPS.out]; simp only [List.getElem?_toArray, List.getElem?_cons_succ, List.getElem?_cons_zero]; exact rfl) (Or.inl ⟨by rw [HOPS.out]; rfl, ?_⟩) ?_
          rotate_left
          · (intro w hSw; have hSx := HFA.out _ hSw; (try dsimp only at hSx); clear hSw; go_simp) <;> (with_reducible rfl)
          simp only [Act.put, List.setIfInBounds_toArray, List.set_cons_zero, List.set_cons_succ]
          refine walkO_take (o := _) (v := ?_) (by rw [HOPS.out]; simp only [List.getElem?_toArray, List.getElem?_cons_succ, List.getElem?_cons_zero]; exact rfl) (Or.inl ⟨by rw [HOPS.out]; rfl, ?_⟩) ?_
          rotate_left
          · (intro w hSw; have hSx := HFA.out _ hSw; (try dsimp only at hSx); clear hSw; go_simp) <;> (with_reducible rfl)
          simp only [Act.put, List.setIfInBounds_toArray, List.set_cons_zero, List.set_cons_succ]
          refine walkO_take (o := _) (v := ?_) (by rw [HOPS.out]; simp only [List.getElem?_toArray, List.getElem?_cons_succ, List.getElem?_cons_zero]; exact rfl) (Or.inl ⟨by rw [HOPS.out]; rfl, ?_⟩) ?_
          rotate_left
          · (intro w hSw; have hSx := HFA.out _ hSw; (try dsimp only at hSx); clear hSw; go_simp) <;> (with_reducible rfl)
          simp only [Act.put, List.setIfInBounds_toArray, List.set_cons_zero, List.set_cons_succ]
          refine walkO_take (o := _) (v := ?_) (by rw [HOPS.out]; simp only [List.getElem?_toArray, List.getElem?_cons_succ, List.getElem?_cons_zero]; exact rfl) (Or.inl ⟨rfl, ?_⟩) ?_
          rotate_left
          · (intro w hSw; have hSx := HFA.out _ hSw; (try dsimp only at hSx); clear hSw; go_simp) <;> (with_reducible rfl)
          simp only [Act.put, List.setIfInBounds_toArray, List.set_cons_zero, List.set_cons_succ]
          refine walkO_take (o := _) (v := ?_) (by rw [HOPS.out]; simp only [List.getElem?_toArray, List.getElem?_cons_succ, List.getElem?_cons_zero]; exact rfl) (Or.inl ⟨rfl, ?_⟩) ?_
          rotate_left
          · (intro w hSw; have hSx := HFA.out _ hSw; (try dsimp only at hSx); clear hSw; go_simp) <;> (with_reducible rfl)
          simp only [Act.put, List.setIfInBounds_toArray, List.set_cons_zero, List.set_cons_succ]
          refine walkO_take (o := _) (v := ?_) (by rw [HOPS.out]; simp only [List.getElem?_toArray, List.getElem?_cons_succ, List.getElem?_cons_zero]; exact rfl) (Or.inl ⟨by rw [HOPS.out]; rfl, ?_⟩) ?_
          rotate_left
          · (intro w hSw; have hSx := HFA.out _ hSw; (try dsimp only at hSx); clear hSw; go_simp) <;> (with_reducible rfl)
          simp only [Act.put, List.setIfInBounds_toArray, List.set_cons_zero, List.set_cons_succ]
          refine walkO_take (o := _) (v := ?_) (by rw [HOPS.out]; simp only [List.getElem?_toArray, List.getElem?_cons_succ, List.getElem?_cons_zero]; exact rfl) (Or.inl ⟨by rw [HOPS.out]; rfl, ?_⟩) ?_
          rotate_left
          · (intro w hSw; have hSx := HFA.out _ hSw; (try dsimp only at hSx); clear hSw; go_simp) <;> (with_reducible rfl)
          simp only [Act.put, List.setIfInBounds_toArray, List.set_cons_zero, List.set_cons_succ]
          refine walkO_take (o := _) (v := ?_) (by rw [HOPS.out]; simp only [List.getElem?_toArray, List.getElem?_cons_succ, List.getElem?_cons_zero]; exact rfl) (Or.inl ⟨by rw [HOPS.out]; rfl, ?_⟩) ?_
          rotate_left
          · (intro w hSw; have hSx := HFA.out _ hSw; (try dsimp only at hSx); clear hSw; go_simp) <;> (with_reducible rfl)
          simp only [Act.put, List.setIfInBounds_toArray, List.set_cons_zero, List.set_cons_succ]
          refine walkO_take (o := _) (v := ?_) (by rw [HOPS.out]; simp only [List.getElem?_toArray, List.getElem?_cons_succ, List.getElem?_cons_zero]; exact rfl) (Or.inl ⟨by rw [HOPS.out]; rfl, ?_⟩) ?_
          rotate_left
          · (intro w hSw; have hSx := HFA.out _ hSw; (try dsimp only at hSx); clear hSw; go_simp) <;> (with_reducible rfl)
          simp only [Act.put, List.setIfInBounds_toArray, List.set_cons_zero, List.set_cons_succ]
          refine walkO_take (o := _) (v := ?_) (by rw [HOPS.out]; simp only [List.getElem?_toArray, List.getElem?_cons_succ, List.getElem?_cons_zero]; exact rfl) (Or.inl ⟨rfl, ?_⟩) ?_
          rotate_left
          · (intro w hSw; have hSx := HFA.out _ hSw; (try dsimp only at hSx); clear hSw; go_simp) <;> (with_reducible rfl)
          simp only [Act.put, List.setIfInBounds_toArray, List.set_cons_zero, List.set_cons_succ]
          refine walkO_take (o := _) (v := ?_) (by rw [HOPS.out]; simp only [List.getElem?_toArray, List.getElem?_cons_succ, List.getElem?_cons_zero]; exact rfl) (Or.inl ⟨rfl, ?_⟩) ?_
          rotate_left
          · (intro w hSw; have hSx := HFA.out _ hSw; (try dsimp only at hSx); clear hSw; go_simp) <;> (with_reducible rfl)
          simp only [Act.put, List.setIfInBounds_toArray, List.set_cons_zero, List.set_cons_succ]
          refine walkO_take (o := _) (v := ?_) (by rw [HOPS.out]; simp only [List.getElem?_toArray, List.getElem?_cons_succ, List.getElem?_cons_zero]; exact rfl) (Or.inl ⟨by rw [HOPS.out]; rfl, ?_⟩) ?_
          rotate_left
          · (intro w hSw; have hSx := HFA.out _ hSw; (try dsimp only at hSx); clear hSw; go_simp) <;> (with_reducible rfl)
          simp only [Act.put, List.setIfInBounds_toArray, List.set_cons_zero, List.set_cons_succ]
          refine walkO_take (o := _) (v := ?_) (by rw [HOPS.out]; simp only [List.getElem?_toArray, List.getElem?_cons_succ, List.getElem?_cons_zero]; exact rfl) (Or.inl ⟨by rw [HOPS.out]; rfl, ?_⟩) ?_
          rotate_left
          · (intro w hSw; have hSx := HFA.out _ hSw; (try dsimp only at hSx); clear hSw; go_simp) <;> (with_reducible rfl)
          simp only [Act.put, List.setIfInBounds_toArray, List.set_cons_zero, List.set_cons_succ]
          refine walkO_take (o := _) (v := ?_) (by rw [HOPS.out]; simp only [List.getElem?_toArray, List.getElem?_cons_succ, List.getElem?_cons_zero]; exact rfl) (Or.inl ⟨by rw [HOPS.out]; rfl, ?_⟩) ?_
          rotate_left
          · (intro w hSw; have hSx := HFA.out _ hSw; (try dsimp only at hSx); clear hSw; go_simp) <;> (with_reducible rfl)
          simp only [Act.put, List.setIfInBounds_toArray, List.set_cons_zero, List.set_cons_succ]
          refine walkO_take (o := _) (v := ?_) (by rw [HOPS.out]; simp only [List.getElem?_toArray, List.getElem?_cons_succ, List.getElem?_cons_zero]; exact rfl) (Or.inl ⟨by rw [HOPS.out]; rfl, ?_⟩) ?_
          rotate_left
          · (intro w hSw; have hSx := HFA.out _ hSw; (try dsimp only at hSx); clear hSw; go_simp) <;> (with_reducible rfl)
          simp only [Act.put, List.setIfInBounds_toArray, List.set_cons_zero, List.set_cons_succ]
          refine walkO_take (o := _) (v := ?_) (by rw [HOPS.out]; simp only [List.getElem?_toArray, List.getElem?_cons_succ, List.getElem?_cons_zero]; exact rfl) (Or.inl ⟨by rw [HOPS.out]; rfl, ?_⟩) ?_
          rotate_left
          · (intro w hSw; have hSx := HFA.out _ hSw; (try dsimp only at hSx); clear hSw; go_simp) <;> (with_reducible rfl)
          simp only [Act.put, List.setIfInBounds_toArray, List.set_cons_zero, List.set_cons_succ]
          refine walkO_take (o := _) (v := ?_) (by rw [HOPS.out]; simp only [List.getElem?_toArray, List.getElem?_cons_succ, List.getElem?_cons_zero]; exact rfl) (Or.inl ⟨by rw [HOPS.out]; rfl, ?_⟩) ?_
          rotate_left
          · (intro w hSw; have hSx := HFA.out _ hSw; (try dsimp only at hSx); clear hSw; go_simp) <;> (with_reducible rfl)
          simp only [Act.put, List.setIfInBounds_toArray, List.set_cons_zero, List.set_cons_succ]
          refine walkO_take (o := _) (v := ?_) (by rw [HOPS.out]; simp only [List.getElem?_toArray, List.getElem?_cons_succ, List.getElem?_cons_zero]; exact rfl) (Or.inl ⟨by rw [HOPS.out]; rfl, ?_⟩) ?_
          rotate_left
          · (intro w hSw; have hSx := HFA.out _ hSw; (try dsimp only at hSx); clear hSw; go_simp) <;> (with_reducible rfl)
          simp only [Act.put, List.setIfInBounds_toArray, List.set_cons_zero, List.set_cons_succ]
          refine walkO_take (o := _) (v := ?_) (by rw [HOPS.out]; simp only [List.getElem?_toArray, List.getElem?_cons_succ, List.getElem?_cons_zero]; exact rfl) (Or.inl ⟨by rw [HOPS.out]; rfl, ?_⟩) ?_
          rotate_left
          · (intro w hSw; have hSx := HFA.out _ hSw; (try dsimp only at hSx); clear hSw; go_simp) <;> (with_reducible rfl)
          simp only [Act.put, List.setIfInBounds_toArray, List.set_cons_zero, List.set_cons_succ]
          refine walkO_take (o := _) (v := ?_) (by rw [HOPS.out]; simp only [List.getElem?_toArray, List.getElem?_cons_succ, List.getElem?_cons_zero]; exact rfl) (Or.inl ⟨rfl, ?_⟩) ?_
          rotate_left
          · (intro w hSw; have hSx := HFA.out _ hSw; (try dsimp only at hSx); clear hSw; go_simp) <;> (with_reducible rfl)
          simp only [Act.put, List.setIfInBounds_toArray, List.set_cons_zero, List.set_cons_succ]
          refine walkO_take (o := _) (v := ?_) (by rw [HOPS.out]; simp only [List.getElem?_toArray, List.getElem?_cons_succ, List.getElem?_cons_zero]; exact rfl) (Or.inl ⟨rfl, ?_⟩) ?_
          rotate_left
          · (intro w hSw; have hSx := HFA.out _ hSw; (try dsimp only at hSx); clear hSw; go_simp) <;> (with_reducible rfl)
          simp only [Act.put, List.setIfInBounds_toArray, List.set_cons_zero, List.set_cons_succ]
          refine walkO_take (o := _) (v := ?_) (by rw [HOPS.out]; simp only [List.getElem?_toArray, List.getElem?_cons_succ, List.getElem?_cons_zero]; exact rfl) (Or.inl ⟨by rw [HOPS.out]; rfl, ?_⟩) ?_
          rotate_left
          · (intro w hSw; have hSx := HFA.out _ hSw; (try dsimp only at hSx); clear hSw; go_simp) <;> (with_reducible rfl)
          simp only [Act.put, List.setIfInBounds_toArray, List.set_cons_zero, List.set_cons_succ]
          refine walkO_take (o := _) (v := ?_) (by rw [HOPS.out]; simp only [List.getElem?_toArray, List.getElem?_cons_succ, List.getElem?_cons_zero]; exact rfl) (Or.inl ⟨by rw [HOPS.out]; rfl, ?_⟩) ?_
          rotate_left
          · (intro w hSw; have hSx := HFA.out _ hSw; (try dsimp only at hSx); clear hSw; go_simp) <;> (with_reducible rfl)
          simp only [Act.put, List.setIfInBounds_toArray, List.set_cons_zero, List.set_cons_succ]
          refine walkO_take (o := _) (v := ?_) (by rw [HOPS.out]; simp only [List.getElem?_toArray, List.getElem?_cons_succ, List.getElem?_cons_zero]; exact rfl) (Or.inl ⟨by rw [HOPS.out]; rfl, ?_⟩) ?_
          rotate_left
          · (intro w hSw; have hSx := HFA.out _ hSw; (try dsimp only at hSx); clear hSw; go_simp) <;> (with_reducible rfl)
          simp only [Act.put, List.setIfInBounds_toArray, List.set_cons_zero, List.set_cons_succ]
          refine walkO_take (o := _) (v := ?_) (by rw [HOPS.out]; simp only [List.getElem?_toArray, List.getElem?_cons_succ, List.getElem?_cons_zero]; exact rfl) (Or.inl ⟨by rw [HOPS.out]; rfl, ?_⟩) ?_
          rotate_left
          · (intro w hSw; have hSx := HFA.out _ hSw; (try dsimp only at hSx); clear hSw; go_simp) <;> (with_reducible rfl)
          simp only [Act.put, List.setIfInBounds_toArray, List.set_cons_zero, List.set_cons_succ]
          refine walkO_take (o := _) (v := ?_) (by rw [HOPS.out]; simp only [List.getElem?_toArray, List.getElem?_cons_succ, List.getElem?_cons_zero]; exact rfl) (Or.inl ⟨by rw [HOPS.out]; rfl, ?_⟩) ?_
          rotate_left
          · (intro w hSw; have hSx := HFA.out _ hSw; (try dsimp only at hSx); clear hSw; go_simp) <;> (with_reducible rfl)
          simp only [Act.put, List.setIfInBounds_toArray, List.set_cons_zero, List.set_cons_succ]
          refine walkO_take (o := _) (v := ?_) (by rw [HOPS.out]; simp only [List.getElem?_toArray, List.getElem?_cons_succ, List.getElem?_cons_zero]; exact rfl) (Or.inl ⟨by rw [HOPS.out]; rfl, ?_⟩) ?_
          rotate_left
          · (intro w hSw; have hSx := HFA.out _ hSw; (try dsimp only at hSx); clear hSw; go_simp) <;> (with_reducible rfl)
          simp only [Act.put, List.setIfInBounds_toArray, List.set_cons_zero, List.set_cons_succ]
          refine walkO_take (o := _) (v := ?_) (by rw [HOPS.out]; simp only [List.getElem?_toArray, List.getElem?_cons_succ, List.getElem?_cons_zero]; exact rfl) (Or.inl ⟨rfl, ?_⟩) ?_
          rotate_left
          · (intro w hSw; have hSx := HFA.out _ hSw; (try dsimp only at hSx); clear hSw; go_simp) <;> (with_reducible rfl)
          simp only [Act.put, List.setIfInBounds_toArray, List.set_cons_zero, List.set_cons_succ]
          refine walkO_done ?_
          clear HOPS OPS
          go_wp2_with fail
          go_roundw
          case rel => exact ⟨k + 1, m, begun, read, fr, by omega, by go_num, rfl, rfl, HH, Lib.hid (HM.out.keep0 HF7.out.drew), Lib.hid (HG.out.then0 HF7.out.drew), Lib.hid (HA.out.keep HF7.out.drew HG.out.size (by simp))⟩
          case measure => simp [intOf]; omega
    · as_aux_lemma =>
        go_wp2_with fail
        refine (known14 _).mono ?_
        rintro e w99 ⟨rfl, f99⟩
        go_wp2_with fail
        go_ret
        exact ⟨rfl, HG.out.then0 f99⟩
set_option maxHeartbeats 16000000 in
theorem streamHolds_walk {c : Int} {a : Option Addr} {len cap : Nat} (w : World) (hA : ∃ A, Acts14 w w.heap.size a len cap A) :
    Calls Try.prog 4 #[.int .i64 c, .slice a len cap] w fun e w' => e = .returned (.bool true) ∧ Fr [] w w' := by
  obtain ⟨A, hA⟩ := hA
  by_cases hx : fewB14 A = true ∧ 0 ≤ c ∧ c ≤ 4096
  · exact streamHolds_main w hx.2.1 hx.2.2 hA hx.1
  · have HFW := Lib.hid (few14 hA)
    clear hA
    cases hb : fewB14 A with
    | false =>
      rw [hb] at HFW
      clear hx
      go_enter Try.func4, Try.ntmps4
      go_wp2_with fail
      refine HFW.out.mono ?_
      rintro e w' ⟨rfl, rfl⟩
      go_wp2_with fail
      refine (known14 _).mono ?_
      rintro e w9 ⟨rfl, f9⟩
      go_wp2_with fail
      go_ret
      exact ⟨rfl, f9⟩
    | true =>
      rw [hb] at HFW hx
      by_cases h0 : c < 0
      · clear hx
        go_enter Try.func4, Try.ntmps4
        go_wp2_with fail
        refine HFW.out.mono ?_
        rintro e w' ⟨rfl, rfl⟩
        go_wp2_with fail
        refine (known14 _).mono ?_
        rintro e w9 ⟨rfl, f9⟩
        go_wp2_with fail
        go_ret
        exact ⟨rfl, f9⟩
      · have h1 : 4096 < c := by
          refine Int.not_le.1 fun h => hx ⟨rfl, by omega, h⟩
        clear hx
        go_enter Try.func4, Try.ntmps4
        go_wp2_with fail
        refine HFW.out.mono ?_
        rintro e w' ⟨rfl, rfl⟩
        go_wp2_with fail
        refine (known14 _).mono ?_
        rintro e w9 ⟨rfl, f9⟩
        go_wp2_with fail
        go_ret
        exact ⟨rfl, f9⟩
end Go.Proofs.Ytdoamelhclnphaa
