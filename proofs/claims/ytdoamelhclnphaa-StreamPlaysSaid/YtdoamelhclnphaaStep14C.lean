/-
  Law 14: step: Read and Copy.
-/
import Derived.Test.YtdoamelhclnphaaStep14B
namespace Go.Proofs.Ytdoamelhclnphaa
open Go.RowKit
set_option maxRecDepth 100000

theorem read_len {m : SM} (h : SOk m) (n : Int) : (readM m n).out.length ≤ 70000 := by
  have h1 := h.q1
  have h2 := h.c1
  have h3 := h.sum
  have h4 := h.a0
  unfold readM
  split
  · simp
  split
  · simp
  split
  · simp
  split
  · simp; omega
  split
  · simp; omega
  split <;> simp
theorem St.apart {w : World} {N : Nat → Prop} {L : List Nat} {b : Nat} {m : SM} (h : St w N L b m) : ¬ N b ∧ ∀ x ∈ L, ¬ N x := by
  obtain ⟨_, _, _, _, _, h1⟩ := h
  exact ⟨h1.nb, h1.nl⟩
set_option maxHeartbeats 16000000 in
theorem step_read {w : World} {F N : Nat → Prop} {b : Nat} {m : SM} {v : Value} {pa : Option Addr} {pc : Nat} {ps : Parts} {n : Int} (hs : SF w F b m) (h : Sv w N v m) (hd : ∀ x, F x → ¬ N x) (HNZ : ∀ x, N x → x < w.heap.size) :
    Calls Try.prog 38 #[.pointer (some ⟨b, 0, none⟩), v, .agg #[.int .i64 3, .slice pa ps.length pc, .int .i64 n]] w (Step14 w F N (readM m n).m) := by
  have HNW := Lib.hid HNZ
  clear HNZ
  have hFl := hs.lt
  have hokm := hs.ok
  obtain ⟨u1, u2, rfl, hq, hr⟩ := h
  obtain ⟨a1, k1, rfl, _⟩ := id hq
  obtain ⟨a2, k2, rfl, _⟩ := id hr
  have HQ := Lib.hid (And.intro hq hr)
  clear hq hr
  obtain ⟨w0, hw0, f0, q0, qa, z0⟩ : ∃ W, ((w.alloc (.cells #[.int .i64 m.c, .slice a1 m.q.length k1, .bool m.busy, .slice a2 m.rest.length k2, .int .i64 m.acc, .int .i64 m.w, .int .i64 m.r] 41)).alloc (.cells #[.int .i64 3, .slice pa ps.length pc, .int .i64 n] 55)).alloc (.cells #[.int .i64 0, .slice none 0 0, .bool false, .slice none 0 0, .int .i64 0, .int .i64 0, .int .i64 0] 41) = W ∧ Fr [] w W ∧ S7 W w.heap.size m.c a1 m.q.length k1 m.busy a2 m.rest.length k2 m.acc m.w m.r ∧ W.heap[w.heap.size + 1]? = some (.cells #[.int .i64 3, .slice pa ps.length pc, .int .i64 n] 55 (0, 0)) ∧ S7 W (w.heap.size + 2) 0 none 0 0 false none 0 0 0 0 0 := ⟨_, rfl, (((Fr.refl _ _).alloc _).alloc _).alloc _, keepA (keepA (newA rfl)), keepA (newA (by simp)), newA (by simp)⟩
  obtain ⟨x0, x1, x2, x3, x4, x5, x6, p0, p1, p2, p3, p4, p5, p6⟩ := q0.cells
  have e0 : w0.cell? ⟨w.heap.size + 1, 0, none⟩ = some (.int .i64 3) := cell_of qa
  have e1 : w0.cell? ⟨w.heap.size + 1, 1, none⟩ = some (.slice pa ps.length pc) := cell_of qa
  have e2 : w0.cell? ⟨w.heap.size + 1, 2, none⟩ = some (.int .i64 n) := cell_of qa
  have hz0 : w.heap.size + 2 < w0.heap.size := lt_of_heap z0
  have HZ := Lib.hid z0
  have HF := Lib.hid f0
  have HQA := Lib.hid qa
  clear q0 z0 f0 qa
  have HC := Lib.hid (r_read (w := w0) (N := N) (v := .agg #[.int .i64 m.c, .slice a1 m.q.length k1, .bool m.busy, .slice a2 m.rest.length k2, .int .i64 m.acc, .int .i64 m.w, .int .i64 m.r]) (m := m) ⟨_, _, rfl, HQ.out.1.keep HF.out (by simp), HQ.out.2.keep HF.out (by simp)⟩ n ⟨by have := hokm.q1; have := hokm.c1; omega, by have := hokm.sum; have := hokm.a0; omega⟩ ⟨hokm.a0, by have := hokm.sum; omega⟩)
  have hol : (readM m n).out.length ≤ 70000 := read_len hokm n
  have HS := Lib.hid fun w' (f : Fr [] w w') => sf_read (hs.keep0 f) n
  generalize (readM m n).m = mf at *
  generalize (readM m n).out = O at *
  generalize (readM m n).err = ee at *
  have HFl := Lib.hid hFl
  have HD := Lib.hid hd
  clear hFl hd hs hokm
  go_enter Try.func38, Try.ntmps38
  go_wp2_with fail
  refine HC.out.mono ?_
  rintro e w1 ⟨v', u, rfl, f1, ⟨u3, u4, rfl, hp3, hp4⟩, hpu⟩
  obtain ⟨a3, k3, rfl, _⟩ := id hp3
  obtain ⟨a4, k4, rfl, _⟩ := id hp4
  obtain ⟨w2, hw2, f2, q2⟩ : ∃ W, w1.alloc (.cells #[.int .i64 mf.c, .slice a3 mf.q.length k3, .bool mf.busy, .slice a4 mf.rest.length k4, .int .i64 mf.acc, .int .i64 mf.w, .int .i64 mf.r] 41) = W ∧ Fr [] w1 W ∧ S7 W w1.heap.size mf.c a3 mf.q.length k3 mf.busy a4 mf.rest.length k4 mf.acc mf.w mf.r := ⟨_, rfl, (Fr.refl _ _).alloc _, newA rfl⟩
  have z1 := f1.size
  have hz2 : w1.heap.size < w2.heap.size := lt_of_heap q2
  have HP3 := Lib.hid (hp3.there.keep f2 (by simp))
  have HP4 := Lib.hid (hp4.there.keep f2 (by simp))
  have HPU := Lib.hid (hpu.keep f2 (by simp))
  have HN2 := Lib.hid q2
  have HF02 := Lib.hid (f1.then0 f2)
  have HF2 := Lib.hid ((HF.out.then0 f1).then0 f2)
  have HZ2 := Lib.hid (show S7 w2 (w.heap.size + 2) 0 none 0 0 false none 0 0 0 0 0 from f2.keep (f1.keep HZ.out (by simp)) (by simp))
  have d2 : w2.cell? ⟨w.heap.size + 1, 2, none⟩ = some (.int .i64 n) := cell_of (f2.keep (f1.keep HQA.out (by simp)) (by simp))
  clear x0 x1 x2 x3 x4 x5 x6 p0 p1 p2 p3 p4 p5 p6
  obtain ⟨x0, x1, x2, x3, x4, x5, x6, p0, p1, p2, p3, p4, p5, p6⟩ := q2.cells
  clear hp3 hp4 hpu q2 f1 f2 e0 e1 e2
  go_wp2_with fail
  refine (HS.out w2 HF2.out).mono ?_
  rintro e w3 ⟨p, rfl, ow, ⟨S, hS, f3⟩, F', hF', h3⟩
  have hnS : ∀ x, w.heap.size ≤ x → x ∉ S := fun x h1 hm => by have := HFl.out x (hS x hm); omega
  have HN3 := Lib.hid (show S7 w3 w1.heap.size mf.c a3 mf.q.length k3 mf.busy a4 mf.rest.length k4 mf.acc mf.w mf.r from f3.keep HN2.out (hnS _ (by omega)))
  have HZS := Lib.hid (show S7 w3 (w.heap.size + 2) 0 none 0 0 false none 0 0 0 0 0 from f3.keep HZ2.out (hnS _ (by omega)))
  have hpu3 := HPU.out.keep f3 (fun x hx hn => by have hn' : w0.heap.size ≤ x := hn; exact hnS x (by omega) hx)
  obtain ⟨ba, bc, rfl, bs⟩ := hpu3.form
  obtain ⟨ua, uc, rfl, huc, _, us, _⟩ := ow.formB
  have k1 := conv_st (cap := uc) us rfl
  have k2 := conv_st (cap := bc) bs rfl
  have hz3 := f3.size
  have HOW : Hid (∃ zs : List Value, zs.length = O.length ∧ (∀ y ∈ zs, ∃ z : Int, y = .int .u8 z) ∧ Ow w3 w2.heap.size 5 (.slice ua O.length uc) zs) := Lib.hid ⟨_, by simp [bi_length], fun y hy => by obtain ⟨z, _, rfl⟩ := List.mem_map.1 hy; exact ⟨z, rfl⟩, ow⟩
  have HS3 := Lib.hid (And.intro hS (And.intro f3 (And.intro hF' h3)))
  have HNS := Lib.hid hnS
  clear hS f3 hF' h3 hnS hpu3 bs us ow d2 x0 x1 x2 x3 x4 x5 x6 p0 p1 p2 p3 p4 p5 p6
  have hoi : (O.length : Int) ≤ 70000 := by omega
  go_wp2_with fail
  go_loopw [30] (fun i wq => ∃ k : Nat, k ≤ O.length ∧ i = .int .i64 k ∧ Hid (Fr (Value.slice ua O.length uc).ownBlock.toList w3 wq) ∧ Hid (∃ zs : List Value, zs.length = O.length ∧ (∀ y ∈ zs, ∃ z : Int, y = .int .u8 z) ∧ Ow wq w2.heap.size 5 (.slice ua O.length uc) zs)) (fun i _ => O.length - (intOf i).toNat)
  case atStart => exact ⟨0, by omega, rfl, Lib.hid (Fr.refl _ _), HOW⟩
  case round =>
    clear k1 k2
    obtain ⟨k, hk, rfl, GQ, HO⟩ := hrel
    rename World => wq
    by_cases hlt : (k : Int) < O.length
    · obtain ⟨zs, hzl, hzv, hzo⟩ := HO.out
      obtain ⟨g, c, hv, _, _, hMg, _, hcell, hfro⟩ := hzo.row (by omega)
      injection hv with hv1 hv2 hv3
      subst hv1
      obtain ⟨z, hz⟩ := hzv _ (List.getElem_mem (show k < zs.length by omega))
      have hck := (hcell k (by omega)).trans (List.getElem?_eq_getElem (by omega))
      rw [hz] at hck
      have hf := hfro k
      have GQ2 := Lib.hid (GQ.out.setCell (p := ⟨g, k, none⟩) (.inl (by simp [Value.ownBlock])) (.int .u8 ((z + 1) % 256)))
      have HO2 : Hid (∃ zs : List Value, zs.length = O.length ∧ (∀ y ∈ zs, ∃ z : Int, y = .int .u8 z) ∧ Ow (wq.setCell ⟨g, k, none⟩ (.int .u8 ((z + 1) % 256))) w2.heap.size 5 (.slice (some ⟨g, 0, none⟩) O.length uc) zs) := Lib.hid ⟨zs.set k (.int .u8 ((z + 1) % 256)), by simpa using hzl, fun y hy => by rcases List.mem_or_eq_of_mem_set hy with h | h; exact hzv y h; exact ⟨_, h⟩, hzo.set k _⟩
      clear hzo hzv hcell hfro HO GQ hz hMg hzl
      go_wp2_with fail
      go_roundw
      case rel => exact ⟨k + 1, by omega, by go_num, GQ2, HO2⟩
      case measure => simp [intOf]; omega
    · skip
      obtain ⟨zs, _, _, hzo⟩ := HO.out
      have hbl := hzo.lt
      have hnU : ∀ x, x < w2.heap.size → x ∉ (Value.slice ua O.length uc).ownBlock.toList := fun x hx hm => by have := hbl x (by simpa using hm); omega
      have hgq := GQ.out
      replace HN3 := Lib.hid (show S7 wq w1.heap.size mf.c a3 mf.q.length k3 mf.busy a4 mf.rest.length k4 mf.acc mf.w mf.r from hgq.keep HN3.out (hnU _ hz2))
      replace HZS := Lib.hid (show S7 wq (w.heap.size + 2) 0 none 0 0 false none 0 0 0 0 0 from hgq.keep HZS.out (hnU _ (by omega)))
      have HPO := Lib.hid (And.intro hbl (And.intro hgq hnU))
      clear hbl hgq hnU hzo HO GQ HOW
      have HFA := Lib.hid fun (w' : World) (f : S7 w' w1.heap.size mf.c a3 mf.q.length k3 mf.busy a4 mf.rest.length k4 mf.acc mf.w mf.r) => (show w'.cell? ⟨w1.heap.size, 0, none⟩ = some (.int .i64 mf.c) ∧ w'.cell? ⟨w1.heap.size, 1, none⟩ = some (.slice a3 mf.q.length k3) ∧ w'.cell? ⟨w1.heap.size, 2, none⟩ = some (.bool mf.busy) ∧ w'.cell? ⟨w1.heap.size, 3, none⟩ = some (.slice a4 mf.rest.length k4) ∧ w'.cell? ⟨w1.heap.size, 4, none⟩ = some (.int .i64 mf.acc) ∧ w'.cell? ⟨w1.heap.size, 5, none⟩ = some (.int .i64 mf.w) ∧ w'.cell? ⟨w1.heap.size, 6, none⟩ = some (.int .i64 mf.r) from (let q := S7.cells f; ⟨q.1, q.2.1, q.2.2.1, q.2.2.2.1, q.2.2.2.2.1, q.2.2.2.2.2.1, q.2.2.2.2.2.2.1⟩))
      go_wp2_with fail
      have fd : Fr [] wq wq.drew := (Fr.refl _ _).drew
      replace HZS := Lib.hid (show S7 wq.drew (w.heap.size + 2) 0 none 0 0 false none 0 0 0 0 0 from fd.keep HZS.out (by simp))
      refine wp_region_order [(0, true), (1, true), (2, true), (3, true), (4, false), (5, true)] (fun w' => S7 w' w1.heap.size mf.c a3 mf.q.length k3 mf.busy a4 mf.rest.length k4 mf.acc mf.w mf.r) (by kernel_rfl) (by kernel_rfl) (fd.keep HN3.out (by simp)) ?_
      intro OPS HOPS
      have hops := HOPS.out
      try simp only [List.append_eq, List.cons_append, List.nil_append] at hops
      replace HOPS := Lib.hid hops
      clear hops
      refine walkO_take (o := _) (v := ?_) (by rw [HOPS.out]; simp only [List.getElem?_toArray, List.getElem?_cons_succ, List.getElem?_cons_zero]; exact rfl) (Or.inl ⟨rfl, ?_⟩) ?_
      rotate_left
      · (intro w hSw; have hSx := HFA.out _ hSw; (try dsimp only at hSx); clear hSw; go_simp) <;> (with_reducible rfl)
      simp only [Act.put, List.setIfInBounds_toArray, List.set_cons_zero, List.set_cons_succ]
      refine walkO_take (o := _) (v := ?_) (by rw [HOPS.out]; simp only [List.getElem?_toArray, List.getElem?_cons_succ, List.getElem?_cons_zero]; exact rfl) (Or.inl ⟨rfl, ?_⟩) ?_
      rotate_left
      · (intro w hSw; have hSx := HFA.out _ hSw; (try dsimp only at hSx); clear hSw; go_simp) <;> (with_reducible rfl)
      simp only [Act.put, List.setIfInBounds_toArray, List.set_cons_zero, List.set_cons_succ]
      refine walkO_take (o := _) (v := ?_) (by rw [HOPS.out]; simp only [List.getElem?_toArray, List.getElem?_cons_succ, List.getElem?_cons_zero]; exact rfl) (Or.inl ⟨rfl, ?_⟩) ?_
      rotate_left
      · (intro w hSw; have hSx := HFA.out _ hSw; (try dsimp only at hSx); clear hSw; go_simp) <;> (with_reducible rfl)
      simp only [Act.put, List.setIfInBounds_toArray, List.set_cons_zero, List.set_cons_succ]
      refine walkO_take (o := _) (v := ?_) (by rw [HOPS.out]; simp only [List.getElem?_toArray, List.getElem?_cons_succ, List.getElem?_cons_zero]; exact rfl) (Or.inl ⟨rfl, ?_⟩) ?_
      rotate_left
      · (intro w hSw; have hSx := HFA.out _ hSw; (try dsimp only at hSx); clear hSw; go_simp) <;> (with_reducible rfl)
      simp only [Act.put, List.setIfInBounds_toArray, List.set_cons_zero, List.set_cons_succ]
      refine walkO_call (o := _) (by rw [HOPS.out]; simp only [List.getElem?_toArray, List.getElem?_cons_succ, List.getElem?_cons_zero]; exact rfl) (fun K HK => ?_)
      refine step_store7 rfl 41 (.tmp 7) (.tmp 153) rfl (w.heap.size + 2) #[.int .i64 mf.c, .slice a3 mf.q.length k3, .bool mf.busy, .slice a4 mf.rest.length k4, .int .i64 mf.acc, .int .i64 mf.w, .int .i64 mf.r] (by simp [Act.eval]) (by simp [Act.eval]) _ _ HZS.out (by kernel_rfl) rfl (by simp [Value.oneCell']) ?_
      intro wf ff qf
      obtain ⟨y0, y1, y2, y3, y4, y5, y6, _, _, _, _, _, _, _⟩ := S7.cells qf
      refine HK.out (fun w' => S7 w' w1.heap.size mf.c a3 mf.q.length k3 mf.busy a4 mf.rest.length k4 mf.acc mf.w mf.r) _ _ (fun _ h => h) (ff.keep (fd.keep HN3.out (by simp)) (by intro hm; simp at hm; omega)) ?_
      clear HK K
      try simp only [Act.put, List.setIfInBounds_toArray, List.set_cons_zero, List.set_cons_succ]
      refine walkO_take (o := _) (v := ?_) (by rw [HOPS.out]; simp only [List.getElem?_toArray, List.getElem?_cons_succ, List.getElem?_cons_zero]; exact rfl) (Or.inl ⟨rfl, ?_⟩) ?_
      rotate_left
      · (intro w hSw; have hSx := HFA.out _ hSw; (try dsimp only at hSx); clear hSw; go_simp) <;> (with_reducible rfl)
      simp only [Act.put, List.setIfInBounds_toArray, List.set_cons_zero, List.set_cons_succ]
      refine walkO_done ?_
      clear HOPS OPS
      go_wp2_with fail
      refine bodyPost_ret (v := .tuple #[.pointer (some ⟨b, 0, none⟩), .agg #[.int .i64 mf.c, .slice a3 mf.q.length k3, .bool mf.busy, .slice a4 mf.rest.length k4, .int .i64 mf.acc, .int .i64 mf.w, .int .i64 mf.r], .bool true]) (by simp [results, Try.results38, go_sem, y0, y1, y2, y3, y4, y5, y6]) rfl ?_
      obtain ⟨hS, f3, hF', h3⟩ := HS3.out
      obtain ⟨hbl, hgq, hnU⟩ := HPO.out
      have f3q : Fr (S ++ (Value.slice ua O.length uc).ownBlock.toList) w2 wq.drew := (f3.trans hgq (U := S ++ (Value.slice ua O.length uc).ownBlock.toList) (fun x hx => .inl (List.mem_append_left _ hx)) (fun x hx => .inl (List.mem_append_right _ hx))).then0 fd
      exact step_post2 (w0 := w0) (z := w0.heap.size) HF.out HF02.out (by omega) (by omega) (fun x hx => by rcases List.mem_append.1 hx with h | h; exact .inl (hS x h); exact .inr (hbl x (by simpa using h)).1) f3q (fun x hx => (hF' x hx).1.imp id .inr) ((h3.keep hgq (fun x hx hF => (hF' x hF).2 (by simpa using hx))).keep0 fd) ff ((HP3.out.there).mono (fun x hx => ⟨hx.1.1, hx.2⟩)) ((HP4.out.there).mono (fun x hx => ⟨hx.1.1, hx.2⟩)) HFl.out HD.out HNW.out
set_option maxHeartbeats 16000000 in
theorem step_any {w : World} {F N : Nat → Prop} {b : Nat} {m : SM} {v : Value} {pa : Option Addr} {pc : Nat} {ps : Parts} {n what : Int} (hs : SF w F b m) (h : Sv w N v m) (hd : ∀ x, F x → ¬ N x) (HNZ : ∀ x, N x → x < w.heap.size) (q0 : (what == 0) = false) (q1 : (what == 1) = false) (q2 : (what == 2) = false) (q3 : (what == 3) = false) (q4 : (what == 4) = false) (q5 : (what == 5) = false) :
    Calls Try.prog 38 #[.pointer (some ⟨b, 0, none⟩), v, .agg #[.int .i64 what, .slice pa ps.length pc, .int .i64 n]] w (Step14 w F N m) := by
  have HNW := Lib.hid HNZ
  clear HNZ
  have hFl := hs.lt
  obtain ⟨u1, u2, rfl, hq, hr⟩ := h
  obtain ⟨a1, k1, rfl, _⟩ := id hq
  obtain ⟨a2, k2, rfl, _⟩ := id hr
  have HQ := Lib.hid (And.intro hq hr)
  clear hq hr
  obtain ⟨w0, hw0, f0, q0, qa, z0⟩ : ∃ W, ((w.alloc (.cells #[.int .i64 m.c, .slice a1 m.q.length k1, .bool m.busy, .slice a2 m.rest.length k2, .int .i64 m.acc, .int .i64 m.w, .int .i64 m.r] 41)).alloc (.cells #[.int .i64 what, .slice pa ps.length pc, .int .i64 n] 55)).alloc (.cells #[.int .i64 0, .slice none 0 0, .bool false, .slice none 0 0, .int .i64 0, .int .i64 0, .int .i64 0] 41) = W ∧ Fr [] w W ∧ S7 W w.heap.size m.c a1 m.q.length k1 m.busy a2 m.rest.length k2 m.acc m.w m.r ∧ W.heap[w.heap.size + 1]? = some (.cells #[.int .i64 what, .slice pa ps.length pc, .int .i64 n] 55 (0, 0)) ∧ S7 W (w.heap.size + 2) 0 none 0 0 false none 0 0 0 0 0 := ⟨_, rfl, (((Fr.refl _ _).alloc _).alloc _).alloc _, keepA (keepA (newA rfl)), keepA (newA (by simp)), newA (by simp)⟩
  obtain ⟨x0, x1, x2, x3, x4, x5, x6, p0, p1, p2, p3, p4, p5, p6⟩ := q0.cells
  have e0 : w0.cell? ⟨w.heap.size + 1, 0, none⟩ = some (.int .i64 what) := cell_of qa
  have e1 : w0.cell? ⟨w.heap.size + 1, 1, none⟩ = some (.slice pa ps.length pc) := cell_of qa
  have e2 : w0.cell? ⟨w.heap.size + 1, 2, none⟩ = some (.int .i64 n) := cell_of qa
  have hz0 : w.heap.size + 2 < w0.heap.size := lt_of_heap z0
  have HZ := Lib.hid z0
  have HF := Lib.hid f0
  have HQA := Lib.hid qa
  clear q0 z0 f0 qa
  have hBx : S7 w0 w.heap.size m.c a1 m.q.length k1 m.busy a2 m.rest.length k2 m.acc m.w m.r := by rw [← hw0]; exact keepA (keepA (newA rfl))
  have HB := Lib.hid hBx
  clear hBx
  obtain ⟨N0, L, h1, hN0, hL0, hb0, _⟩ := hs
  have HOLD := Lib.hid (h1.keep0 HF.out)
  have HNL := Lib.hid h1.apart
  have HCP := Lib.hid (st_copy HOLD.out)
  have HFl := Lib.hid hFl
  have HD := Lib.hid hd
  have HNN := Lib.hid (And.intro hN0 (And.intro hL0 hb0))
  clear hFl hd h1 hN0 hL0
  go_enter Try.func38, Try.ntmps38
  go_wp2_with fail
  refine HCP.out.mono ?_
  rintro e w1 ⟨y, L', rfl, f1, hy, hL', hc1⟩
  have H1 := Lib.hid (And.intro hL' (And.intro hc1 f1))
  have HCN := Lib.hid (st_cancel (HOLD.out.keep0 f1))
  clear hL' hc1 f1
  clear x0 x1 x2 x3 x4 x5 x6 p0 p1 p2 p3 p4 p5 p6 e0 e1 e2
  go_wp2_with fail
  refine HCN.out.mono ?_
  rintro e w2 ⟨rfl, f2, hc2⟩
  have H2 := Lib.hid f2
  have HRD := Lib.hid (st_read hc2 1)
  generalize (cancelM m).m = mc at *
  generalize (cancelM m).n = mcn at *
  generalize (cancelM m).err = mce at *
  clear f2 hc2
  go_wp2_with fail
  refine HRD.out.mono ?_
  rintro e w3 ⟨u, rfl, f3, _, N3, _, hc3⟩
  have H3 := Lib.hid f3
  have HCW := Lib.hid (st_closew hc3 13)
  generalize (readM mc 1).m = mr at *
  generalize (readM mc 1).err = mre at *
  generalize (readM mc 1).out = mro at *
  clear f3 hc3
  go_wp2_with fail
  refine HCW.out.mono ?_
  rintro e w4 ⟨rfl, f4, _⟩
  generalize (closewM mr 13).err = mwe at *
  have f04 : Fr (b :: L) w0 w4 := (((H1.out.2.2.trans H2.out (U := b :: L) (by simp) (fun x hx => .inl (by simp at hx; simp [hx]))).trans H3.out (fun x hx => .inl hx) (fun x hx => .inl hx))).trans f4 (fun x hx => .inl hx) (fun x hx => .inl hx)
  have f14 : Fr (b :: L) w1 w4 := ((H2.out.trans H3.out (U := b :: L) (fun x hx => .inl (by simp at hx; simp [hx])) (fun x hx => .inl hx))).trans f4 (fun x hx => .inl hx) (fun x hx => .inl hx)
  have hbL : ∀ x ∈ b :: L, F x := fun x hx => by rcases List.mem_cons.1 hx with rfl | h; exact hb0; exact HNN.out.2.1 x h
  have hnb : ∀ x, w.heap.size ≤ x → x ∉ b :: L := fun x h1 hm => by have := HFl.out x (hbL x hm); omega
  have hc4 := H1.out.2.1.keep f14 (hnb _ (by omega)) (fun x hx => hnb _ (by have := H1.out.1 x hx; omega)) (fun x hx hn => by rcases List.mem_cons.1 hx with rfl | h; exact HNL.out.1 hn.1; exact HNL.out.2 x h hn.1)
  have HC4 := Lib.hid (SF.of hc4)
  have HB4 := Lib.hid (show S7 w4 w.heap.size m.c a1 m.q.length k1 m.busy a2 m.rest.length k2 m.acc m.w m.r from f04.keep HB.out (hnb _ (Nat.le_refl _)))
  have HZS := Lib.hid (show S7 w4 (w.heap.size + 2) 0 none 0 0 false none 0 0 0 0 0 from f04.keep HZ.out (hnb _ (by omega)))
  have H04 := Lib.hid (And.intro f04 hbL)
  clear f04 f14 f4 hc4 hbL hnb
  have HFA := Lib.hid fun (w' : World) (f : S7 w' w.heap.size m.c a1 m.q.length k1 m.busy a2 m.rest.length k2 m.acc m.w m.r) => (show w'.cell? ⟨w.heap.size, 0, none⟩ = some (.int .i64 m.c) ∧ w'.cell? ⟨w.heap.size, 1, none⟩ = some (.slice a1 m.q.length k1) ∧ w'.cell? ⟨w.heap.size, 2, none⟩ = some (.bool m.busy) ∧ w'.cell? ⟨w.heap.size, 3, none⟩ = some (.slice a2 m.rest.length k2) ∧ w'.cell? ⟨w.heap.size, 4, none⟩ = some (.int .i64 m.acc) ∧ w'.cell? ⟨w.heap.size, 5, none⟩ = some (.int .i64 m.w) ∧ w'.cell? ⟨w.heap.size, 6, none⟩ = some (.int .i64 m.r) from (let q := S7.cells f; ⟨q.1, q.2.1, q.2.2.1, q.2.2.2.1, q.2.2.2.2.1, q.2.2.2.2.2.1, q.2.2.2.2.2.2.1⟩))
  go_wp2_with fail
  have fd : Fr [] w4 w4.drew := (Fr.refl _ _).drew
  replace HZS := Lib.hid (show S7 w4.drew (w.heap.size + 2) 0 none 0 0 false none 0 0 0 0 0 from fd.keep HZS.out (by simp))
  refine wp_region_order [(0, true), (1, true), (2, true), (3, true), (4, true), (5, false), (6, true)] (fun w' => S7 w' w.heap.size m.c a1 m.q.length k1 m.busy a2 m.rest.length k2 m.acc m.w m.r) (by kernel_rfl) (by kernel_rfl) (fd.keep HB4.out (by simp)) ?_
  intro OPS HOPS
  have hops := HOPS.out
  try simp only [List.append_eq, List.cons_append, List.nil_append] at hops
  replace HOPS := Lib.hid hops
  clear hops
  refine walkO_take (o := _) (v := ?_) (by rw [HOPS.out]; simp only [List.getElem?_toArray, List.getElem?_cons_succ, List.getElem?_cons_zero]; exact rfl) (Or.inl ⟨rfl, ?_⟩) ?_
  rotate_left
  · (intro w hSw; have hSx := HFA.out _ hSw; (try dsimp only at hSx); clear hSw; go_simp) <;> (with_reducible rfl)
  simp only [Act.put, List.setIfInBounds_toArray, List.set_cons_zero, List.set_cons_succ]
  refine walkO_take (o := _) (v := ?_) (by rw [HOPS.out]; simp only [List.getElem?_toArray, List.getElem?_cons_succ, List.getElem?_cons_zero]; exact rfl) (Or.inl ⟨rfl, ?_⟩) ?_
  rotate_left
  · (intro w hSw; have hSx := HFA.out _ hSw; (try dsimp only at hSx); clear hSw; go_simp) <;> (with_reducible rfl)
  simp only [Act.put, List.setIfInBounds_toArray, List.set_cons_zero, List.set_cons_succ]
  refine walkO_take (o := _) (v := ?_) (by rw [HOPS.out]; simp only [List.getElem?_toArray, List.getElem?_cons_succ, List.getElem?_cons_zero]; exact rfl) (Or.inl ⟨rfl, ?_⟩) ?_
  rotate_left
  · (intro w hSw; have hSx := HFA.out _ hSw; (try dsimp only at hSx); clear hSw; go_simp) <;> (with_reducible rfl)
  simp only [Act.put, List.setIfInBounds_toArray, List.set_cons_zero, List.set_cons_succ]
  refine walkO_take (o := _) (v := ?_) (by rw [HOPS.out]; simp only [List.getElem?_toArray, List.getElem?_cons_succ, List.getElem?_cons_zero]; exact rfl) (Or.inl ⟨rfl, ?_⟩) ?_
  rotate_left
  · (intro w hSw; have hSx := HFA.out _ hSw; (try dsimp only at hSx); clear hSw; go_simp) <;> (with_reducible rfl)
  simp only [Act.put, List.setIfInBounds_toArray, List.set_cons_zero, List.set_cons_succ]
  refine walkO_take (o := _) (v := ?_) (by rw [HOPS.out]; simp only [List.getElem?_toArray, List.getElem?_cons_succ, List.getElem?_cons_zero]; exact rfl) (Or.inl ⟨rfl, ?_⟩) ?_
  rotate_left
  · (intro w hSw; have hSx := HFA.out _ hSw; (try dsimp only at hSx); clear hSw; go_simp) <;> (with_reducible rfl)
  simp only [Act.put, List.setIfInBounds_toArray, List.set_cons_zero, List.set_cons_succ]
  refine walkO_call (o := _) (by rw [HOPS.out]; simp only [List.getElem?_toArray, List.getElem?_cons_succ, List.getElem?_cons_zero]; exact rfl) (fun K HK => ?_)
  refine step_store7 rfl 41 (.tmp 7) (.tmp 198) rfl (w.heap.size + 2) #[.int .i64 m.c, .slice a1 m.q.length k1, .bool m.busy, .slice a2 m.rest.length k2, .int .i64 m.acc, .int .i64 m.w, .int .i64 m.r] (by simp [Act.eval]) (by simp [Act.eval]) _ _ HZS.out (by kernel_rfl) rfl (by simp [Value.oneCell']) ?_
  intro wf ff qf
  obtain ⟨y0, y1, y2, y3, y4, y5, y6, _, _, _, _, _, _, _⟩ := S7.cells qf
  refine HK.out (fun w' => S7 w' w.heap.size m.c a1 m.q.length k1 m.busy a2 m.rest.length k2 m.acc m.w m.r) _ _ (fun _ h => h) (ff.keep (fd.keep HB4.out (by simp)) (by intro hm; simp at hm)) ?_
  clear HK K
  try simp only [Act.put, List.setIfInBounds_toArray, List.set_cons_zero, List.set_cons_succ]
  refine walkO_take (o := _) (v := ?_) (by rw [HOPS.out]; simp only [List.getElem?_toArray, List.getElem?_cons_succ, List.getElem?_cons_zero]; exact rfl) (Or.inl ⟨rfl, ?_⟩) ?_
  rotate_left
  · (intro w hSw; have hSx := HFA.out _ hSw; (try dsimp only at hSx); clear hSw; go_simp) <;> (with_reducible rfl)
  simp only [Act.put, List.setIfInBounds_toArray, List.set_cons_zero, List.set_cons_succ]
  refine walkO_done ?_
  clear HOPS OPS
  go_wp2_with fail
  refine bodyPost_ret (v := .tuple #[.pointer (some ⟨y, 0, none⟩), .agg #[.int .i64 m.c, .slice a1 m.q.length k1, .bool m.busy, .slice a2 m.rest.length k2, .int .i64 m.acc, .int .i64 m.w, .int .i64 m.r], .bool true]) (by simp [results, Try.results38, go_sem, y0, y1, y2, y3, y4, y5, y6]) rfl ?_
  exact step_post (w2 := w0) HF.out (fun x hx => .inl (H04.out.2 x hx)) (H04.out.1.then0 fd) (fun x hx => by rcases hx with rfl | hx | hx; exact .inr hy; exact .inr (H1.out.1 x hx); exact .inl (HNN.out.1 x hx.1.1)) (HC4.out.keep0 fd) ff (HQ.out.1.keep HF.out (by simp)) (HQ.out.2.keep HF.out (by simp)) HFl.out HD.out (by omega) HNW.out

end Go.Proofs.Ytdoamelhclnphaa
