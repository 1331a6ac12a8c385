/-
  Law 41: ShaperPlays: any calls of a shaper.
-/
import Derived.Test.YtdndabklcenndaaShStep
import Derived.Test.YtdndabklcenndaaShBegin
import Derived.Test.YtdndabklcenndaaActs41
import Derived.Test.YtdndabklcenndaaBRow
import Derived.Deep.DeepCutAuto
namespace Go.Proofs.Ytdndabklcenndaa
open Go.RowKit
set_option maxRecDepth 100000

/-- A shaper at b that holds s, and v, the document's; the blocks of X lie apart from both; all of it is newer than w. -/
def St41 (w wr : World) (X : List Nat) (b : Nat) (s : SH) (v : Value) : Prop :=
  ∃ L k mb, Shp wr L b k s ∧ SHS s ∧ Md wr (X ++ L) mb s v ∧ (∀ y ∈ L, w.heap.size ≤ y) ∧ w.heap.size ≤ mb ∧ ∀ x ∈ X, x ∉ L ∧ x < wr.heap.size
theorem St41.keepX {w wr wr' : World} {X : List Nat} {b : Nat} {s : SH} {v : Value} (h : St41 w wr X b s v) {T : List Nat} (f : Fr T wr wr') (hT : ∀ y ∈ T, y ∈ X) : St41 w wr' X b s v := by
  obtain ⟨L, k, mb, h1, h2, h3, h4, h5, h6⟩ := h
  exact ⟨L, k, mb, h1.keep f (fun y hy hm => (h6 y (hT y hy)).1 hm), h2, h3.keep f (fun y hy => .inl (List.mem_append_left _ (hT y hy))) (fun y hy => .inl hy), h4, h5, fun x hx => ⟨(h6 x hx).1, Nat.lt_of_lt_of_le (h6 x hx).2 f.size⟩⟩
theorem St41.out {w wr wr' : World} {X : List Nat} {b : Nat} {s : SH} {v : Value} (h : St41 w wr X b s v) (f : Fr [] wr wr') {x : Nat} (h0 : wr.heap.size ≤ x) (hx1 : x < wr'.heap.size) : St41 w wr' (x :: X) b s v := by
  obtain ⟨L, k, mb, h1, h2, h3, h4, h5, h6⟩ := h
  refine ⟨L, k, mb, h1.keep0 f, h2, h3.keep f (by simp) (fun y hy => ?_), h4, h5, fun y hy => ?_⟩
  · rcases List.mem_cons.1 hy with rfl | hy
    · exact .inr h0
    · exact .inl hy
  · rcases List.mem_cons.1 hy with rfl | hy
    · exact ⟨fun hm => by have := h1.old y hm; omega, hx1⟩
    · exact ⟨(h6 y hy).1, Nat.lt_of_lt_of_le (h6 y hy).2 f.size⟩
theorem St41.less {w wr : World} {X X' : List Nat} {b : Nat} {s : SH} {v : Value} (h : St41 w wr X b s v) (hX : ∀ x ∈ X', x ∈ X) : St41 w wr X' b s v := by
  obtain ⟨L, k, mb, h1, h2, h3, h4, h5, h6⟩ := h
  exact ⟨L, k, mb, h1, h2, h3.keep (Fr.refl [] _) (by simp) (fun y hy => .inl (by rcases List.mem_append.1 hy with hy | hy; exact List.mem_append_left _ (hX y hy); exact List.mem_append_right _ hy)), h4, h5, fun x hx => h6 x (hX x hx)⟩
def StepQ41 (w wr : World) (X : List Nat) (s2 : SH) (e : Ending) (w' : World) : Prop :=
  ∃ b' v2, e = .returned (.tuple #[.pointer (some ⟨b', 0, none⟩), .agg v2, .bool true]) ∧ v2.size = 11 ∧ v2.all (·.oneCell') = true ∧ St41 w w' X b' s2 (.agg v2) ∧ ∃ T, Fr T wr w' ∧ ∀ y ∈ T, w.heap.size ≤ y ∧ y ∉ X
theorem St41.step {w wr : World} {X : List Nat} {b : Nat} {s : SH} {v : Value} (h : St41 w wr X b s v) (hw : w.heap.size ≤ wr.heap.size) {pa : Option Addr} {pc : Nat} {data : List UInt8} (hd : Sl wr pa (bi data)) (hdo : ∀ b' o', 0 < data.length → pa = some ⟨b', o', none⟩ → b' ∈ X) (hdl : data.length ≤ 100) (hpc : data.length ≤ pc) {now : Int} (h0 : 0 ≤ now) (h1 : now ≤ 18446744073709551615) (what n : Int) :
    Calls Try.prog 36 #[.pointer (some ⟨b, 0, none⟩), v, .agg #[.int .i64 what, .int .u64 now, .slice pa data.length pc, .int .i64 n]] wr (StepQ41 w wr X (stepH s what now data n)) := by
  obtain ⟨L, k, mb, g1, g2, g3, g4, g5, g6⟩ := h
  refine (step41 g1 g2 g3 (fun y hy => List.mem_append_right _ hy) (fun y hy => ?_) hd (fun b' o' k0 e => ?_) hdl hpc h0 h1 what n).mono fun e w' ⟨b', k', L', v', he, f, hs, hm, hl⟩ => ?_
  · rcases List.mem_append.1 hy with hy | hy
    · exact (g6 y hy).2
    · exact g1.old y hy
  · have hx := hdo b' o' k0 e
    exact ⟨(g6 b' hx).1, fun e => g3.mb (e ▸ List.mem_append_left _ hx)⟩
  · obtain ⟨⟨ma, nl, mc, now0, e1, r1⟩, r2, r3⟩ := hm
    refine ⟨b', _, by rw [he, e1], rfl, by simp [Value.oneCell'], ⟨L', k', mb, hs, (stepH_ok g1.ok h0 h1).2 g2, ?_, fun y hy => ?_, g5, fun x hx => ?_⟩, mb :: L, f, fun y hy => ?_⟩
    · rw [← e1]
      exact (show Md w' (L' ++ (X ++ L)) mb _ v' from ⟨⟨ma, nl, mc, now0, e1, r1⟩, r2, r3⟩).keep (Fr.refl [] _) (by simp) (fun y hy => .inl (by rcases List.mem_append.1 hy with hy | hy; exact List.mem_append_right _ (List.mem_append_left _ hy); exact List.mem_append_left _ hy))
    · rcases hl y hy with h_ | h_
      · exact g4 y h_
      · omega
    · refine ⟨fun hm => ?_, Nat.lt_of_lt_of_le (g6 x hx).2 f.size⟩
      rcases hl x hm with h_ | h_
      · exact (g6 x hx).1 h_
      · have := (g6 x hx).2; omega
    · rcases List.mem_cons.1 hy with rfl | hy
      · exact ⟨g5, fun hx => g3.mb (List.mem_append_left _ hx)⟩
      · exact ⟨g4 y hy, fun hx => (g6 y hx).1 hy⟩
theorem St41.alike {w wr : World} {X : List Nat} {b : Nat} {s : SH} {v : Value} (h : St41 w wr X b s v) :
    Calls Try.prog 27 #[.pointer (some ⟨b, 0, none⟩), v] wr fun e w' => e = .returned (.bool true) ∧ Fr [] wr w' := by
  obtain ⟨L, k, mb, g1, g2, ⟨⟨ma, nl, mc, now0, rfl, hb, hn, _, _⟩, r2, r3⟩, g4, g5, g6⟩ := h
  exact alike41 g1 (hb.keep (Fr.refl [] _) (by simp) (fun y hy => .inl (List.mem_append_right _ hy))) hn

theorem array11_ {cs : Array Value} (h : cs.size = 11) : ∃ c0 c1 c2 c3 c4 c5 c6 c7 c8 c9 c10, cs = #[c0, c1, c2, c3, c4, c5, c6, c7, c8, c9, c10] := by
  obtain ⟨l⟩ := cs
  match l, h with
  | [c0, c1, c2, c3, c4, c5, c6, c7, c8, c9, c10], _ => exact ⟨c0, c1, c2, c3, c4, c5, c6, c7, c8, c9, c10, rfl⟩
theorem St41.owns {w wr wr' : World} {X : List Nat} {b : Nat} {s : SH} {v : Value} (h : St41 w wr X b s v) (f : Fr [] wr wr') {e : TypeId} {ga : Option Addr} {n gc : Nat} {xs : List Value} (o : Ow wr' wr.heap.size e (.slice ga n gc) xs) :
    ∃ XD : List Nat, St41 w wr' (XD ++ X) b s v ∧ (∀ y ∈ XD, wr.heap.size ≤ y ∧ y < wr'.heap.size) ∧ ∀ b' o', ga = some ⟨b', o', none⟩ → b' ∈ XD := by
  cases ga with
  | none => exact ⟨[], h.keepX f (by simp), by simp, fun b' o' e => by simp at e⟩
  | some a =>
    have hl := o.lt a.block rfl
    exact ⟨[a.block], h.out f hl.1 hl.2, by simpa using hl, fun b' o' e => by injection e with e; subst e; simp⟩
theorem brow_of {w : World} {M : Nat} {e : TypeId} {ga : Option Addr} {n gc : Nat} {l : List UInt8} (h : Ow w M e (.slice ga n gc) ((bi l).map (Value.int .u8))) (h0 : 0 < l.length) : ∃ D, ga = some ⟨D, 0, none⟩ ∧ BRow w D l.length := by
  obtain ⟨g, cap', hve, _⟩ := h.row (by simp [bi_length]; exact h0)
  injection hve with e1 _ _
  subst e1
  exact ⟨g, rfl, BRow.of_ow h h0⟩

set_option maxHeartbeats 16000000 in
theorem shaperPlays_main {r p u lat lim now : Int} {a : Option Addr} {len cap : Nat} {A : List A41} (w : World) (hv : ValS r p u lat lim now) (h0 : 0 ≤ now) (h1 : now ≤ 18446744073709551615) (hA : Acts41 w w.heap.size a len cap A) (hs : fewB41 A = true) :
    Calls Try.prog 11 #[.agg #[.int .i64 r, .int .i64 p, .int .i64 u, .int .i64 lat, .int .i64 lim, .int .u64 now], .slice a len cap] w fun e w' => e = .returned (.bool true) ∧ Fr [] w w' := by
  have hle := hA.len_eq
  subst hle
  obtain ⟨n20, hok20⟩ := fewB41_iff hs
  have HOK := Lib.hid hok20
  have hl20 : (A.length : Int) ≤ 20 := by omega
  obtain ⟨wb, hwb, fb, qb⟩ : ∃ W, w.alloc (.cells #[.int .i64 r, .int .i64 p, .int .i64 u, .int .i64 lat, .int .i64 lim, .int .u64 now] 56) = W ∧ Fr [] w W ∧ W.heap[w.heap.size]? = some (.cells #[.int .i64 r, .int .i64 p, .int .i64 u, .int .i64 lat, .int .i64 lim, .int .u64 now] 56 (0, 0)) := ⟨_, rfl, (Fr.refl _ _).alloc _, newA rfl⟩
  have HFE := Lib.hid hs
  have HM := Lib.hid fun w => made41_ok w hv h0 h1
  have HV := Lib.hid fun w => valid41_yes w hv
  have HB := Lib.hid fun w => begin41 (lat := lat) (lim := lim) w hv.1
  have HOKN := Lib.hid (newH_ok hv h0 h1)
  have HA0 := Lib.hid hA
  clear hv hs hok20 n20 hA
  go_enter Try.func11, Try.ntmps11
  go_wp2_with (refine wpList_load_row rfl 56 (.tmp 2) rfl _ rfl _ _ _ _ qb Try.underlying56 rfl (by kernel_rfl) ?_)
  refine (HV.out _).mono ?_
  rintro e w1 ⟨rfl, f1⟩
  have q1 := f1.keep qb (by simp)
  have HFW1 := Lib.hid (fun e => e ▸ few41 (HA0.out.keep (fb.then0 f1) (Nat.le_refl _) (by simp)) : ∀ (_e : fewB41 A = true), Calls Try.prog 33 #[.slice a A.length cap, .int .i64 20] w1 fun e w' => e = .returned (.bool true) ∧ w1 = w')
  replace HFW1 := HFW1.out HFE.out
  go_wp2_with fail
  refine HFW1.mono ?_
  rintro e w1' ⟨rfl, rfl⟩
  clear HFW1 HFE HV
  go_wp2_with (refine wpList_load_row rfl 56 (.tmp 2) rfl _ rfl _ _ _ _ q1 Try.underlying56 rfl (by kernel_rfl) ?_)
  refine (HM.out _).mono ?_
  rintro e w2 ⟨b, k0, rfl, f2, s2, l1, l2⟩
  have q2 := f2.keep q1 (by simp)
  replace s2 := Lib.hid s2
  have fb2 := (fb.then0 f1).then0 f2
  clear HM q1
  go_wp2_with (refine wpList_load_row rfl 56 (.tmp 2) rfl _ rfl _ _ _ _ q2 Try.underlying56 rfl (by kernel_rfl) ?_)
  refine (HB.out _).mono ?_
  rintro e w3 ⟨mb, rfl, f3, k3, l3, l4⟩
  have fb3 := fb2.then0 f3
  have hz3 := fb3.size
  obtain ⟨MB, hMB⟩ : ∃ MB, w3.heap.size = MB := ⟨_, rfl⟩
  obtain ⟨w4, hw4, f4, q4⟩ : ∃ W, w3.alloc (.cells #[.pointer none, .int .i64 0, .int .i64 0, .int .i64 0, .int .i64 0, .int .i64 0, .int .u64 0, .slice none 0 0, .bool false, .int .u64 0, .int .u64 0] 64) = W ∧ Fr [] w3 W ∧ W.heap[MB]? = some (.cells #[.pointer none, .int .i64 0, .int .i64 0, .int .i64 0, .int .i64 0, .int .i64 0, .int .u64 0, .slice none 0 0, .bool false, .int .u64 0, .int .u64 0] 64 (0, 0)) := ⟨_, rfl, (Fr.refl _ _).alloc _, newA hMB.symm⟩
  clear HB q2
  go_wp2_with (refine wpList_store_row rfl 64 (.tmp 7) (.tmp 29) rfl MB _ rfl rfl _ _ q4 (by kernel_rfl) rfl (by simp [Value.oneCell']) ?_)
  obtain ⟨w5, hw5, q5, f5⟩ := setRow_fr (cs := #[.pointer (some ⟨mb, 0, none⟩), .int .i64 r, .int .i64 p, .int .i64 u, .int .i64 lat, .int .i64 lim, .int .u64 now, .slice none 0 0, .bool false, .int .u64 0, .int .u64 now]) q4
  rw [hw5]
  have fb5 := (fb3.then0 f4).trans f5 (fun _ h => .inl h) (fun x hx => .inr (by simp at hx; omega))
  have f45 : Fr [MB] w3 w5 := (show Fr [MB] w3 w4 from f4.mono (by simp)).trans f5 (fun _ h => .inl h) (fun x hx => .inl hx)
  have zMB := lt_of_heap q5
  have st5 : St41 w w5 [MB] b (newH r p u lat lim now) (.agg #[.pointer (some ⟨mb, 0, none⟩), .int .i64 r, .int .i64 p, .int .i64 u, .int .i64 lat, .int .i64 lim, .int .u64 now, .slice none 0 0, .bool false, .int .u64 0, .int .u64 now]) := by
    have hs2 := s2.out
    have hb2 := hs2.old
    have z3 := f3.size
    have z2 := f2.size
    have z1 := f1.size
    have zb := fb.size
    have hlx : ∀ y ∈ [b, k0], y < w2.heap.size := fun y hy => hb2 y hy
    have hb2' := hlx b (by simp)
    have hk2' := hlx k0 (by simp)
    refine ⟨[b, k0], k0, mb, (hs2.keep0 f3).keep f45 (fun y hy hm => by simp at hy; subst hy; have := hlx _ hm; omega), ⟨by simp [newH], by simp [newH], by simp [newH]⟩, ⟨⟨none, 0, 0, now, rfl, by simp [newH, flatS, ByV], by simp [newH, flatS], Nat.le_refl _, by unfold maxLen; omega⟩, f45.keep k3 (by simp; omega), by simp; omega⟩, ?_, by omega, ?_⟩
    · intro y hy; simp at hy; omega
    · intro x hx; simp at hx; subst hx; exact ⟨by simp; omega, zMB⟩
  have HST := Lib.hid st5
  have ac5 := HA0.out.keep fb5 (Nat.le_refl _) (by simp)
  have hMBw : w.heap.size ≤ MB := by omega
  have HMB := Lib.hid hMBw
  clear HA0 st5 f45 k3 s2 q4 f4 f5 hMBw
  go_wp2_with fail
  go_loopw [5, 8] (fun v5 i wr => ∃ (k b : Nat) (s : SH) (v2 : Array Value), k ≤ A.length ∧ i = .int .i64 k ∧ v5 = .pointer (some ⟨b, 0, none⟩) ∧ wr.heap[MB]? = some (.cells v2 64 (0, 0)) ∧ v2.size = 11 ∧ v2.all (·.oneCell') = true ∧ Hid (St41 w wr [MB] b s (.agg v2)) ∧ Fr [] w wr ∧ Acts41 wr w.heap.size a A.length cap A) (fun _ i _ => A.length - (intOf i).toNat)
  case atStart => exact ⟨0, b, _, _, by omega, rfl, rfl, q5, rfl, by simp [Value.oneCell'], HST, fb5, ac5⟩
  case round =>
    clear q5 HST fb5 ac5
    obtain ⟨k, b, s, v2, hk, rfl, rfl, qM, hv2, ho2, HT, gr, ar⟩ := hrel
    rename World => wr
    by_cases hlt : (k : Int) < A.length
    · as_aux_lemma =>
        have hkA : k < A.length := by omega
        have hzM := lt_of_heap qM
        obtain ⟨ab, ao, pa, pl, pc, rfl, habM, hab, c0, c1, c2, c3, hd, ⟨x0, x1⟩, ⟨y0, y1⟩, ⟨z0, z1⟩⟩ := ar.at_ k hkA
        have hok := HOK.out A[k] (List.getElem_mem hkA)
        generalize A[k] = ak at c0 c1 c2 c3 hd hok x0 x1 y0 y1 z0 z1
        obtain ⟨what, tm, data, n⟩ := ak
        dsimp only at c0 c1 c2 c3 hd hok x0 x1 y0 y1 z0 z1
        have hpl := hd.len_eq
        subst hpl
        obtain ⟨BA, hBA⟩ : ∃ BA, wr.heap.size = BA := ⟨_, rfl⟩
        obtain ⟨wa, hwa, fa, qa⟩ : ∃ W, wr.alloc (.cells #[.int .i64 0, .int .u64 0, .slice none 0 0, .int .i64 0] 77) = W ∧ Fr [] wr W ∧ W.heap[BA]? = some (.cells #[.int .i64 0, .int .u64 0, .slice none 0 0, .int .i64 0] 77 (0, 0)) := ⟨_, rfl, (Fr.refl _ _).alloc _, newA hBA.symm⟩
        have HARG := Lib.hid hd
        have HX := Lib.hid (And.intro (And.intro x0 x1) (And.intro z0 z1))
        have HY := Lib.hid (And.intro y0 y1)
        have HDL := Lib.hid hok
        clear hd x0 x1 y0 y1 z0 z1 hok
        obtain ⟨wA, hwA, qA, fA⟩ := setRow_fr (cs := #[.int .i64 what, .int .u64 tm, .slice pa data.length pc, .int .i64 n]) qa
        have eA : wA.cell? ⟨BA, 2, none⟩ = some (.slice pa data.length pc) := cell_of qA
        have zBA := lt_of_heap qA
        have F0A : Fr [] wr wA := fa.trans fA (fun _ h => .inl h) (fun x hx => .inr (by simp at hx; omega))
        have HSV : Hid (SlV wA pa ((bi data).map (Value.int .u8))) := Lib.hid (sl_keep HARG.out.sl F0A (by simp)).toV
        have H1 : Hid (([] : List Value).length + data.length ≤ maxLen) := Lib.hid (by unfold maxLen; simp; have := HDL.out; omega)
        have H2 : Hid ((([] : List Value).length + data.length) * 1 ≤ 140737488355328) := Lib.hid (by simp; have := HDL.out; omega)
        have H3 : Hid (((bi data).map (Value.int .u8)).length = data.length) := Lib.hid (by simp [bi])
        have HU : Hid (Try.prog.underlying 68 = some (.slice 5)) := Lib.hid (by kernel_rfl)
        have HIN : Hid ((Try.prog.info? 5).map (fun i => (i.zero, i.size, i.bytes)) = some (some (.int .u8 0), 1, 1)) := Lib.hid (by kernel_rfl)
        have HMw : Hid (w.heap.size ≤ wA.heap.size) := Lib.hid (Nat.le_trans gr.size F0A.size)
        have HF0 := Lib.hid F0A
        have HQA := Lib.hid qA
        clear fa fA F0A qA
        go_wp2_with (first
          | (refine wpList_store_row rfl 77 (.tmp 9) (.tmp 45) rfl BA _ rfl rfl _ _ qa (by kernel_rfl) rfl (by simp [Value.oneCell']) ?_)
          | (refine wpList_append_fr _ rfl (.const (.slice none 0 0)) (.tmp 47) 68 rfl 5 (.int .u8 0) 1 HU.out HIN.out rfl wA.heap.size (.slice none 0 0) [] (by exact rfl) (Ow.nil _ _ _) pa data.length pc _ (by exact rfl) H3.out HSV.out (oneCell_bytes _) (by exact H1.out) (by exact H2.out) (Nat.le_refl _) ?_))
        intro v' w1 o1 f1 hb
        have f1' : Fr [] wA w1 := f1
        have o2 : Ow w1 wA.heap.size 5 v' ((bi data).map (Value.int .u8)) := o1.out
        obtain ⟨ga, gc, rfl, hgl, _, hgs, _⟩ := o2.formB
        have hzA := lt_of_heap HQA.out
        have hz1 := f1'.size
        have q1 := f1'.keep HQA.out (by simp)
        have zA2 : w1.cell? ⟨BA, 2, none⟩ = some (.slice pa data.length pc) := cell_of q1
        have zF2 : w1.frozen? ⟨BA, 2, none⟩ = false := free_of q1
        have T1 := ((HT.out.out (x := BA) HF0.out (by omega) hzA).owns f1' o2)
        obtain ⟨XD, T1, hXD, hXD2⟩ := T1
        obtain ⟨wC, hwC, qC, fC⟩ : ∃ W, w1.setCell ⟨BA, 2, none⟩ (.slice ga data.length gc) = W ∧ W.heap[BA]? = some (.cells #[.int .i64 what, .int .u64 tm, .slice ga data.length gc, .int .i64 n] 77 (0, 0)) ∧ Fr [BA] w1 W := ⟨_, rfl, heap_setCell_eq (i := 2) (u := .slice ga data.length gc) q1, (Fr.refl _ w1).setCell (.inl (by simp)) _⟩
        have T2 := T1.keepX fC (by simp)
        have F0C : Fr [BA] wr wC := ((HF0.out.then0 f1').mono (T := [BA]) (by simp)).trans fC (fun _ h => .inl h) (fun x hx => .inl hx)
        have qMC := F0C.keep qM (by simp; omega)
        have oC : Ow wC wA.heap.size 5 (.slice ga data.length gc) ((bi data).map (Value.int .u8)) := o2.keep fC (fun k hk => by have := o2.lt k hk; simp; omega)
        have hslC : Sl wC ga (bi data) := sl_keep hgs fC (fun _ b' o' e => by have := hXD b' (hXD2 b' o' e); simp; omega)
        have HBR := Lib.hid fun (h0 : 0 < data.length) => brow_of oC h0
        have HSTP := Lib.hid (T2.step (Nat.le_trans gr.size F0C.size) (pc := gc) hslC (fun b' o' _ e => List.mem_append_left _ (hXD2 b' o' e)) HDL.out hgl HY.out.1 HY.out.2 what n)
        have hzC := F0C.size
        have hz1C := fC.size
        have hMlt : MB < wA.heap.size := by omega
        have HG := Lib.hid (gr.trans F0C (U := []) (by simp) (fun x hx => .inr (by have := gr.size; simp at hx; omega)))
        have HAC := Lib.hid (ar.keep F0C gr.size (by have := gr.size; simp; omega))
        clear o1 o2 f1 f1' hb q1 HSV H1 H2 H3 T1 T2 oC HQA HF0
        obtain ⟨S2, hS2⟩ : ∃ S2, stepH s what tm data n = S2 := ⟨_, rfl⟩
        rw [hS2] at HSTP
        clear hS2
        go_wp2_with (first
          | (refine wpList_load_row rfl 64 (.tmp 7) rfl _ rfl _ _ _ _ qMC Try.underlying64 rfl (by rw [hv2]; kernel_rfl) ?_)
          | (refine wpList_load_row rfl 77 (.tmp 9) rfl _ rfl _ _ _ _ qC Try.underlying77 rfl (by kernel_rfl) ?_))
        refine HSTP.out.mono ?_
        rintro e w6 ⟨b2, v6, rfl, hv6, ho6, T6, S6, f6, hS6⟩
        obtain ⟨g0, g1, g2, g3, g4, g5, g6, g7, g8, g9, g10, rfl⟩ := array11_ hv6
        clear HSTP
        obtain ⟨NB, hNB⟩ : ∃ NB, w6.heap.size = NB := ⟨_, rfl⟩
        have hz6 := f6.size
        have qM6 := f6.keep qMC (fun hm => (hS6 _ hm).2 (by simp))
        have qC6 := f6.keep qC (fun hm => (hS6 _ hm).2 (by simp))
        have hzM6 := lt_of_heap qM6
        have hzC6 := lt_of_heap qC6
        obtain ⟨w7, hw7, f7, q7⟩ : ∃ W, w6.alloc (.cells #[.pointer none, .int .i64 0, .int .i64 0, .int .i64 0, .int .i64 0, .int .i64 0, .int .u64 0, .slice none 0 0, .bool false, .int .u64 0, .int .u64 0] 64) = W ∧ Fr [] w6 W ∧ W.heap[NB]? = some (.cells #[.pointer none, .int .i64 0, .int .i64 0, .int .i64 0, .int .i64 0, .int .i64 0, .int .u64 0, .slice none 0 0, .bool false, .int .u64 0, .int .u64 0] 64 (0, 0)) := ⟨_, rfl, (Fr.refl _ _).alloc _, newA hNB.symm⟩
        obtain ⟨w8, hw8, q8, f8⟩ := setRow_fr (cs := #[g0, g1, g2, g3, g4, g5, g6, g7, g8, g9, g10]) q7
        have T8 := (T6.out (x := NB) f7 (by omega) (lt_of_heap q7)).keepX f8 (by simp)
        have F68 : Fr [] w6 w8 := f7.trans f8 (by simp) (fun x hx => .inr (by simp at hx; omega))
        have qM8 := F68.keep qM6 (by simp)
        have qC8 := F68.keep qC6 (by simp)
        have hG8 := (HG.out.trans f6 (U := []) (by simp) (fun x hx => .inr (hS6 x hx).1)).then0 F68
        have hA8 := (HAC.out.keep f6 HG.out.size (fun x hx => (hS6 x hx).1)).keep F68 (Nat.le_trans HG.out.size hz6) (by simp)
        have HBR8 := Lib.hid fun (h0 : 0 < data.length) => (let ⟨D, e, hb⟩ := HBR.out h0; ⟨D, e, hXD2 _ _ e, (hb.keep f6 (fun hm => (hS6 _ hm).2 (List.mem_append_left _ (hXD2 _ _ e)))).keep F68 (by simp)⟩ : ∃ D, ga = some ⟨D, 0, none⟩ ∧ D ∈ XD ∧ BRow w8 D data.length)
        have HT8 := Lib.hid T8
        have HG8 := Lib.hid hG8
        have HA8 := Lib.hid hA8
        have HO6 := Lib.hid ho6
        have hNX : NB ∉ XD := fun hm => by have := hXD _ hm; omega
        have hBX : BA ∉ XD := fun hm => by have := hXD _ hm; omega
        have hMX : MB ∉ XD := fun hm => by have := hXD _ hm; omega
        have hNM : NB ≠ MB := by omega
        have hNBA : NB ≠ BA := by omega
        have hdl : (data.length : Int) ≤ 100 := by have := HDL.out; omega
        clear T6 T8 hG8 hA8 ho6 hv6 F68 f8 f7 qM6 qC6 HBR HAC HG f6 hS6 hslC hwC fC
        go_wp2_with (refine wpList_store_row rfl 64 (.tmp 11) (.tmp 56) rfl NB _ rfl rfl _ _ q7 (by kernel_rfl) rfl HO6.out ?_)
        clear hw8 hw7 q7
        go_loopw [58, 13] (fun _ j wx => ∃ q : Nat, q ≤ data.length ∧ j = .int .i64 q ∧ wx.heap[BA]? = some (.cells #[.int .i64 what, .int .u64 tm, .slice ga data.length gc, .int .i64 n] 77 (0, 0)) ∧ Hid (0 < data.length → ∃ D, ga = some ⟨D, 0, none⟩ ∧ D ∈ XD ∧ BRow wx D data.length) ∧ Fr XD w8 wx) (fun _ j _ => data.length - (intOf j).toNat)
        case atStart => exact ⟨0, by omega, rfl, qC8, HBR8, Fr.refl _ _⟩
        case round =>
          obtain ⟨q, hq, rfl, qx, HB, fx⟩ := hrel
          rename World => wx
          have ex2 : wx.cell? ⟨BA, 2, none⟩ = some (.slice ga data.length gc) := cell_of qx
          by_cases hlq : (q : Int) < data.length
          · obtain ⟨D, rfl, hDX, hb⟩ := HB.out (by omega)
            obtain ⟨z, hz, hfz⟩ := hb.at_ (j := q) (by omega)
            have hDB : D ≠ BA := fun e => hBX (e ▸ hDX)
            have HBW := Lib.hid hb
            clear hb HB
            go_upto_region 16 with fail
            refine wp_region_till [(0, true), (1, true), (2, true), (3, true), (4, true), (5, true), (6, true), (7, true), (8, true), (9, true)] [10] (fun w' => w'.cell? ⟨BA, 2, none⟩ = some (.slice (some ⟨D, 0, none⟩) data.length gc) ∧ w'.cell? ⟨D, q, none⟩ = some (.int .u8 z)) (by kernel_rfl) (by kernel_rfl) ⟨ex2, hz⟩ ?_
            intro OPS HOPS
            have hops := HOPS.out
            try simp only [List.append_eq, List.cons_append, List.nil_append] at hops
            replace HOPS := Lib.hid hops
            clear hops
            refine walkX_take (o := _) (v := ?_) (by rw [HOPS.out]; simp only [List.getElem?_toArray, List.getElem?_cons_succ, List.getElem?_cons_zero]; exact rfl) (Or.inl ⟨rfl, ?_⟩) ?_
            rotate_left
            · (intro w hSw; (try dsimp only at hSw); go_simp) <;> (with_reducible rfl)
            simp only [Act.put, List.setIfInBounds_toArray, List.set_cons_zero, List.set_cons_succ]
            refine walkX_take (o := _) (v := ?_) (by rw [HOPS.out]; simp only [List.getElem?_toArray, List.getElem?_cons_succ, List.getElem?_cons_zero]; exact rfl) (Or.inl ⟨rfl, ?_⟩) ?_
            rotate_left
            · (intro w hSw; (try dsimp only at hSw); go_simp) <;> (with_reducible rfl)
            simp only [Act.put, List.setIfInBounds_toArray, List.set_cons_zero, List.set_cons_succ]
            refine walkX_take (o := _) (v := ?_) (by rw [HOPS.out]; simp only [List.getElem?_toArray, List.getElem?_cons_succ, List.getElem?_cons_zero]; exact rfl) (Or.inl ⟨rfl, ?_⟩) ?_
            rotate_left
            · (intro w hSw; (try dsimp only at hSw); go_simp) <;> (with_reducible rfl)
            simp only [Act.put, List.setIfInBounds_toArray, List.set_cons_zero, List.set_cons_succ]
            refine walkX_take (o := _) (v := ?_) (by rw [HOPS.out]; simp only [List.getElem?_toArray, List.getElem?_cons_succ, List.getElem?_cons_zero]; exact rfl) (Or.inl ⟨rfl, ?_⟩) ?_
            rotate_left
            · (intro w hSw; (try dsimp only at hSw); go_simp) <;> (with_reducible rfl)
            simp only [Act.put, List.setIfInBounds_toArray, List.set_cons_zero, List.set_cons_succ]
            refine walkX_take (o := _) (v := ?_) (by rw [HOPS.out]; simp only [List.getElem?_toArray, List.getElem?_cons_succ, List.getElem?_cons_zero]; exact rfl) (Or.inl ⟨rfl, ?_⟩) ?_
            rotate_left
            · (intro w hSw; (try dsimp only at hSw); go_simp) <;> (with_reducible rfl)
            simp only [Act.put, List.setIfInBounds_toArray, List.set_cons_zero, List.set_cons_succ]
            refine walkX_take (o := _) (v := ?_) (by rw [HOPS.out]; simp only [List.getElem?_toArray, List.getElem?_cons_succ, List.getElem?_cons_zero]; exact rfl) (Or.inl ⟨rfl, ?_⟩) ?_
            rotate_left
            · (intro w hSw; (try dsimp only at hSw); go_simp) <;> (with_reducible rfl)
            simp only [Act.put, List.setIfInBounds_toArray, List.set_cons_zero, List.set_cons_succ]
            refine walkX_take (o := _) (v := ?_) (by rw [HOPS.out]; simp only [List.getElem?_toArray, List.getElem?_cons_succ, List.getElem?_cons_zero]; exact rfl) (Or.inl ⟨rfl, ?_⟩) ?_
            rotate_left
            · (intro w hSw; (try dsimp only at hSw); go_simp) <;> (with_reducible rfl)
            simp only [Act.put, List.setIfInBounds_toArray, List.set_cons_zero, List.set_cons_succ]
            refine walkX_take (o := _) (v := ?_) (by rw [HOPS.out]; simp only [List.getElem?_toArray, List.getElem?_cons_succ, List.getElem?_cons_zero]; exact rfl) (Or.inl ⟨rfl, ?_⟩) ?_
            rotate_left
            · (intro w hSw; (try dsimp only at hSw); go_simp) <;> (with_reducible rfl)
            simp only [Act.put, List.setIfInBounds_toArray, List.set_cons_zero, List.set_cons_succ]
            refine walkX_take (o := _) (v := ?_) (by rw [HOPS.out]; simp only [List.getElem?_toArray, List.getElem?_cons_succ, List.getElem?_cons_zero]; exact rfl) (Or.inl ⟨rfl, ?_⟩) ?_
            rotate_left
            · (intro w hSw; (try dsimp only at hSw); go_simp) <;> (with_reducible rfl)
            simp only [Act.put, List.setIfInBounds_toArray, List.set_cons_zero, List.set_cons_succ]
            refine walkX_take (o := _) (v := ?_) (by rw [HOPS.out]; simp only [List.getElem?_toArray, List.getElem?_cons_succ, List.getElem?_cons_zero]; exact rfl) (Or.inl ⟨rfl, ?_⟩) ?_
            rotate_left
            · (intro w hSw; (try dsimp only at hSw); go_simp) <;> (with_reducible rfl)
            simp only [Act.put, List.setIfInBounds_toArray, List.set_cons_zero, List.set_cons_succ]
            refine walkX_tail ?_
            refine walkTail_step (o := _) (by rw [HOPS.out]; simp only [List.getElem?_toArray, List.getElem?_cons_succ, List.getElem?_cons_zero]; exact rfl) (fun K HK => ?_)
            have cz_ : wx.cell? ⟨D, q, none⟩ = some (.int .u8 z) := hz
            have fz_ : wx.frozen? ⟨D, q, none⟩ = false := hfz
            go_simp
            refine HK.out _ _ ?_
            clear HK K cz_ fz_
            try simp only [Act.put, List.setIfInBounds_toArray, List.set_cons_zero, List.set_cons_succ]
            refine walkTail_done ?_
            clear HOPS OPS
            go_wp2_with fail
            go_roundw
            case rel => exact ⟨q + 1, by omega, by go_num, keepS qx (fun e => hDB e.symm), Lib.hid (fun _ => ⟨D, rfl, hDX, (HBW.out.set _ _ _).keep (Fr.refl [] _).drew (by simp)⟩), (fx.setCell (p := ⟨D, q, none⟩) (.inl hDX) _).drew⟩
            case measure => simp [intOf]; omega
          · have q8x := fx.keep q8 hNX
            have qMx := fx.keep qM8 hMX
            have T9 := HT8.out.keepX fx (fun y hy => List.mem_cons_of_mem _ (List.mem_append_left _ hy))
            have HAL := Lib.hid T9.alike
            have HT9 := Lib.hid T9
            have HG9 := Lib.hid (HG8.out.trans fx (U := []) (by simp) (fun x hx => .inr (by have := hXD x hx; have := gr.size; omega)))
            have HA9 := Lib.hid (HA8.out.keep fx HG8.out.size (fun x hx => by have := hXD x hx; have := gr.size; omega))
            have d0 : wx.cell? ⟨NB, 0, none⟩ = some g0 := cell_of q8x
            have d1 : wx.cell? ⟨NB, 1, none⟩ = some g1 := cell_of q8x
            have d2 : wx.cell? ⟨NB, 2, none⟩ = some g2 := cell_of q8x
            have d3 : wx.cell? ⟨NB, 3, none⟩ = some g3 := cell_of q8x
            have d4 : wx.cell? ⟨NB, 4, none⟩ = some g4 := cell_of q8x
            have d5 : wx.cell? ⟨NB, 5, none⟩ = some g5 := cell_of q8x
            have d6 : wx.cell? ⟨NB, 6, none⟩ = some g6 := cell_of q8x
            have d7 : wx.cell? ⟨NB, 7, none⟩ = some g7 := cell_of q8x
            have d8 : wx.cell? ⟨NB, 8, none⟩ = some g8 := cell_of q8x
            have d9 : wx.cell? ⟨NB, 9, none⟩ = some g9 := cell_of q8x
            have d10 : wx.cell? ⟨NB, 10, none⟩ = some g10 := cell_of q8x
            clear T9 HB
            go_wp2_with fail
            refine HAL.out.mono ?_
            rintro e wy ⟨rfl, fy⟩
            have q8y := fy.keep q8x (by simp)
            have qMy := fy.keep qMx (by simp)
            clear d0 d1 d2 d3 d4 d5 d6 d7 d8 d9 d10 HAL
            go_wp2_with fail
            have fd : Fr [MB] wy wy.drew := (Fr.refl _ _).drew
            have HFA := Lib.hid fun (w' : World) (f : Fr [MB] wy w') => (show w'.cell? ⟨NB, 0, none⟩ = some g0 ∧ w'.cell? ⟨NB, 1, none⟩ = some g1 ∧ w'.cell? ⟨NB, 2, none⟩ = some g2 ∧ w'.cell? ⟨NB, 3, none⟩ = some g3 ∧ w'.cell? ⟨NB, 4, none⟩ = some g4 ∧ w'.cell? ⟨NB, 5, none⟩ = some g5 ∧ w'.cell? ⟨NB, 6, none⟩ = some g6 ∧ w'.cell? ⟨NB, 7, none⟩ = some g7 ∧ w'.cell? ⟨NB, 8, none⟩ = some g8 ∧ w'.cell? ⟨NB, 9, none⟩ = some g9 ∧ w'.cell? ⟨NB, 10, none⟩ = some g10 from (let q' := f.keep q8y (by simpa using hNM); ⟨cell_of q', cell_of q', cell_of q', cell_of q', cell_of q', cell_of q', cell_of q', cell_of q', cell_of q', cell_of q', cell_of q'⟩))
            refine wp_region_order [(0, true), (1, true), (2, true), (3, false)] (fun w' => Fr [MB] wy w') (by kernel_rfl) (by kernel_rfl) fd ?_
            intro OPS HOPS
            have hops := HOPS.out
            try simp only [List.append_eq, List.cons_append, List.nil_append] at hops
            replace HOPS := Lib.hid hops
            clear hops
            refine walkO_take (o := _) (v := ?_) (by rw [HOPS.out]; simp only [List.getElem?_toArray, List.getElem?_cons_succ, List.getElem?_cons_zero]; exact rfl) (Or.inl ⟨rfl, ?_⟩) ?_
            rotate_left
            · (intro w hSw; have hSx := HFA.out _ hSw; (try dsimp only at hSx); clear hSw; go_simp) <;> (with_reducible rfl)
            simp only [Act.put, List.setIfInBounds_toArray, List.set_cons_zero, List.set_cons_succ]
            refine walkO_take (o := _) (v := ?_) (by rw [HOPS.out]; simp only [List.getElem?_toArray, List.getElem?_cons_succ, List.getElem?_cons_zero]; exact rfl) (Or.inl ⟨rfl, ?_⟩) ?_
            rotate_left
            · (intro w hSw; have hSx := HFA.out _ hSw; (try dsimp only at hSx); clear hSw; go_simp) <;> (with_reducible rfl)
            simp only [Act.put, List.setIfInBounds_toArray, List.set_cons_zero, List.set_cons_succ]
            refine walkO_take (o := _) (v := ?_) (by rw [HOPS.out]; simp only [List.getElem?_toArray, List.getElem?_cons_succ, List.getElem?_cons_zero]; exact rfl) (Or.inl ⟨rfl, ?_⟩) ?_
            rotate_left
            · (intro w hSw; have hSx := HFA.out _ hSw; (try dsimp only at hSx); clear hSw; go_simp) <;> (with_reducible rfl)
            simp only [Act.put, List.setIfInBounds_toArray, List.set_cons_zero, List.set_cons_succ]
            refine walkO_call (o := _) (by rw [HOPS.out]; simp only [List.getElem?_toArray, List.getElem?_cons_succ, List.getElem?_cons_zero]; exact rfl) (fun K HK => ?_)
            obtain ⟨wE, hwE, qE, fE⟩ := setRow_fr (cs := #[g0, g1, g2, g3, g4, g5, g6, g7, g8, g9, g10]) (show wy.drew.heap[MB]? = _ from qMy)
            refine step_store_row rfl 64 (.tmp 7) (.tmp 84) rfl MB #[g0, g1, g2, g3, g4, g5, g6, g7, g8, g9, g10] rfl rfl _ _ (show wy.drew.heap[MB]? = _ from qMy) (by kernel_rfl) hv2 HO6.out hwE ?_
            have gE : Fr [MB] wy wE := fd.trans fE (fun _ h => .inl h) (fun x hx => .inl hx)
            refine HK.out (fun w' => Fr [MB] wy w') _ _ (fun _ h => h) (gE) ?_
            clear HK K
            try simp only [Act.put, List.setIfInBounds_toArray, List.set_cons_zero, List.set_cons_succ]
            refine walkO_done ?_
            clear HOPS OPS
            go_wp2_with fail
            have hgs0 := gr.size
            have F9 : Fr [MB] wx wE := ((show Fr [MB] wx wy from fy.mono (by simp)).trans gE (fun _ h => .inl h) (fun x hx => .inl hx))
            have T10 := (HT9.out.keepX F9 (by simp)).less (X' := [MB]) (by simp)
            have G10 := HG9.out.trans F9 (U := []) (by simp) (fun x hx => .inr (by simp at hx; have := HMB.out; omega))
            have A10 := HA9.out.keep F9 HG9.out.size (fun x hx => by simp at hx; have := HMB.out; omega)
            go_roundw
            case rel => exact ⟨k + 1, b2, S2, _, by omega, by go_num, rfl, qE, rfl, HO6.out, Lib.hid T10, G10, A10⟩
            case measure => simp [intOf]; omega
    · go_wp2_with fail
      refine (known41 _).mono ?_
      rintro e w6 ⟨rfl, f6⟩
      go_wp2_with fail
      go_ret
      exact ⟨rfl, gr.then0 f6⟩

set_option maxHeartbeats 4000000 in
theorem shaperPlays_walk {r p u lat lim now : Int} {a : Option Addr} {len cap : Nat} (h0 : 0 ≤ now) (h1 : now ≤ 18446744073709551615) (w : World) (hA : ∃ A, Acts41 w w.heap.size a len cap A) :
    Calls Try.prog 11 #[.agg #[.int .i64 r, .int .i64 p, .int .i64 u, .int .i64 lat, .int .i64 lim, .int .u64 now], .slice a len cap] w fun e w' => e = .returned (.bool true) ∧ Fr [] w w' := by
  obtain ⟨A, hA⟩ := hA
  by_cases hv : ValS r p u lat lim now
  · by_cases hs : fewB41 A = true
    · exact shaperPlays_main w hv h0 h1 hA hs
    · obtain ⟨wb, hwb, fb, qb⟩ : ∃ W, w.alloc (.cells #[.int .i64 r, .int .i64 p, .int .i64 u, .int .i64 lat, .int .i64 lim, .int .u64 now] 56) = W ∧ Fr [] w W ∧ W.heap[w.heap.size]? = some (.cells #[.int .i64 r, .int .i64 p, .int .i64 u, .int .i64 lat, .int .i64 lim, .int .u64 now] 56 (0, 0)) := ⟨_, rfl, (Fr.refl _ _).alloc _, newA rfl⟩
      have HV := Lib.hid fun w => valid41_yes w hv
      have hs0 : fewB41 A = false := by simpa using hs
      have HF := Lib.hid fun w1 (f : Fr [] wb w1) => few41 (hA.keep (fb.then0 f) (Nat.le_refl _) (by simp))
      rw [hs0] at HF
      clear hv hs hs0 hA
      go_enter Try.func11, Try.ntmps11
      go_wp2_with (refine wpList_load_row rfl 56 (.tmp 2) rfl _ rfl _ _ _ _ qb Try.underlying56 rfl (by kernel_rfl) ?_)
      refine (HV.out _).mono ?_
      rintro e w1 ⟨rfl, f1⟩
      have HF1 := Lib.hid (HF.out _ f1)
      clear HF HV
      go_wp2_with fail
      refine HF1.out.mono ?_
      rintro e w2 ⟨rfl, rfl⟩
      clear HF1
      go_wp2_with fail
      refine (known41 _).mono ?_
      rintro e w3 ⟨rfl, f3⟩
      go_wp2_with fail
      go_ret
      exact ⟨rfl, (fb.then0 f1).then0 f3⟩
  · obtain ⟨wb, hwb, fb, qb⟩ : ∃ W, w.alloc (.cells #[.int .i64 r, .int .i64 p, .int .i64 u, .int .i64 lat, .int .i64 lim, .int .u64 now] 56) = W ∧ Fr [] w W ∧ W.heap[w.heap.size]? = some (.cells #[.int .i64 r, .int .i64 p, .int .i64 u, .int .i64 lat, .int .i64 lim, .int .u64 now] 56 (0, 0)) := ⟨_, rfl, (Fr.refl _ _).alloc _, newA rfl⟩
    have HV := Lib.hid fun w => valid41_no w hv
    clear hv hA
    go_enter Try.func11, Try.ntmps11
    go_wp2_with (refine wpList_load_row rfl 56 (.tmp 2) rfl _ rfl _ _ _ _ qb Try.underlying56 rfl (by kernel_rfl) ?_)
    refine (HV.out _).mono ?_
    rintro e w1 ⟨rfl, f1⟩
    clear HV
    go_wp2_with fail
    refine (known41 _).mono ?_
    rintro e w3 ⟨rfl, f3⟩
    go_wp2_with fail
    go_ret
    exact ⟨rfl, (fb.then0 f1).then0 f3⟩
end Go.Proofs.Ytdndabklcenndaa
