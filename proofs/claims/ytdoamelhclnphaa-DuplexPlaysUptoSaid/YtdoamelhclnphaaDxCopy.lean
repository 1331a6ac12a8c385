/-
  duplex.Copy.
-/
import Derived.Test.YtdoamelhclnphaaGs
import Derived.Test.YtdoamelhclnphaaDw
import Derived.Test.YtdoamelhclnphaaRegT
namespace Go.Proofs.Ytdoamelhclnphaa
open Go.RowKit
set_option maxRecDepth 100000

theorem St.apart15 {w : World} {N : Nat → Prop} {L : List Nat} {b : Nat} {m : SM} (h : St w N L b m) : ¬ N b ∧ ∀ x ∈ L, ¬ N x := by
  obtain ⟨_, _, _, _, _, h1⟩ := h
  exact ⟨h1.nb, h1.nl⟩
set_option maxHeartbeats 1000000 in
theorem copy_end {w wd w1 w2 w3 : World} {F : Nat → Prop} {d b0 b1 y0 y1 : Nat} {F0 F1 N0 N1 : Nat → Prop} {L0' L1' L0 L1 : List Nat} {s : DM} (h : DR w F d b0 b1 F0 F1 s)
    (s0 : St w N0 L0' b0 s.m0) (l0 : ∀ x ∈ L0', F0 x) (i0 : F0 b0) (n0 : ∀ x, N0 x → F0 x) (s1 : St w N1 L1' b1 s.m1) (l1 : ∀ x ∈ L1', F1 x) (i1 : F1 b1) (n1 : ∀ x, N1 x → F1 x)
    (fd : Fr [] w wd) (f1 : Fr [] wd w1) (hy0 : wd.heap.size ≤ y0) (hL0 : ∀ x ∈ L0, wd.heap.size ≤ x) (hc0 : St w1 (fun x => N0 x ∧ x < wd.heap.size) L0 y0 s.m0)
    (f2 : Fr [] w1 w2) (hy1 : w1.heap.size ≤ y1) (hL1 : ∀ x ∈ L1, w1.heap.size ≤ x) (hc1 : St w2 (fun x => N1 x ∧ x < w1.heap.size) L1 y1 s.m1)
    (fb : Fr [] w2 w3) (qb : DB w3 w2.heap.size y0 y1 s.x0 s.x1) :
    ∃ d' F' Fo Fo0 Fo1 M0 M1, Ending.returned (.pointer (some ⟨w2.heap.size, 0, none⟩)) = .returned (.pointer (some ⟨d', 0, none⟩)) ∧ Fr [] w w3 ∧ (∀ x, F' x → F x ∨ w.heap.size ≤ x) ∧ Dx w3 F' d' s ∧ DW w3 Fo d b0 b1 Fo0 Fo1 M0 M1 s ∧ ∀ x, Fo x → F x ∧ ¬ F' x := by
  have z0 := fd.size
  have z1 := f1.size
  have z2 := f2.size
  have z3 : w2.heap.size < w3.heap.size := lt_of_heap qb
  have g3 := ((fd.then0 f1).then0 f2).then0 fb
  have q0 := (hc0.keep0 f2).keep0 fb
  have q1 := hc1.keep0 fb
  have e0 := hc0.lt
  have e1 := hc1.lt
  have t0 := hc0.ltL
  have t1 := hc1.ltL
  have hlt := h.lt
  have lF0 : ∀ x, F0 x → x < w.heap.size := fun x hx => hlt x (h.i0 x hx)
  have lF1 : ∀ x, F1 x → x < w.heap.size := fun x hx => hlt x (h.i1 x hx)
  have A0 := s0.apart15
  have A1 := s1.apart15
  have hd := hlt d h.id_
  have o0 := (s0.keep0 g3)
  have o1 := (s1.keep0 g3)
  refine ⟨w2.heap.size, fun x => ((x = y0 ∨ x ∈ L0 ∨ ((N0 x ∧ x < wd.heap.size) ∧ x < w3.heap.size)) ∨ (x = y1 ∨ x ∈ L1 ∨ ((N1 x ∧ x < w1.heap.size) ∧ x < w3.heap.size))) ∨ x = w2.heap.size,
    fun x => ((x = b0 ∨ x ∈ L0') ∨ (x = b1 ∨ x ∈ L1')) ∨ x = d, fun x => x = b0 ∨ x ∈ L0', fun x => x = b1 ∨ x ∈ L1', N0, N1, rfl, g3, fun x hx => ?_, ⟨y0, y1, _, _, qb, SF.of q0, SF.of q1, fun x hx hy => ?_, fun hx => ?_, fun hx => ?_, fun x hx => .inl (.inl hx), fun x hx => .inl (.inr hx), .inr rfl, fun x hx => ?_⟩,
    ⟨g3.keep h.b (by simp), ⟨L0', o0, fun x hx => .inr hx, .inl rfl, fun x hx => ?_, fun x hx => ?_⟩, ⟨L1', o1, fun x hx => .inr hx, .inl rfl, fun x hx => ?_, fun x hx => ?_⟩, fun x hx hy => ?_, fun hx => ?_, fun hx => ?_, fun hx => h.n0 (n0 _ hx), fun hx => h.n1 (n1 _ hx), fun x hx hy => ?_, fun x hx hy => ?_, fun x hx => .inl (.inl hx), fun x hx => .inl (.inr hx), .inr rfl, fun x hx => ?_⟩, fun x hx => ⟨?_, fun hy => ?_⟩⟩
  · rcases hx with (((rfl | hx | hx) | (rfl | hx | hx)) | rfl)
    · exact .inr (by omega)
    · exact .inr (by have := hL0 x hx; omega)
    · exact .inl (h.i0 x (n0 x hx.1.1))
    · exact .inr (by omega)
    · exact .inr (by have := hL1 x hx; omega)
    · exact .inl (h.i1 x (n1 x hx.1.1))
    · exact .inr (by omega)
  · have k0 : x < w1.heap.size := by
      rcases hx with rfl | hx | hx
      · exact e0
      · exact t0 x hx
      · have := lF0 x (n0 x hx.1.1); omega
    rcases hy with rfl | hy | hy
    · omega
    · have := hL1 x hy; omega
    · have k1 := lF1 x (n1 x hy.1.1)
      rcases hx with rfl | hx | hx
      · omega
      · have := hL0 x hx; omega
      · exact h.a x (n0 x hx.1.1) (n1 x hy.1.1)
  · rcases hx with hx | hx | hx
    · omega
    · have := t0 _ hx; omega
    · have := lF0 _ (n0 _ hx.1.1); omega
  · rcases hx with hx | hx | hx
    · omega
    · have := t1 _ hx; omega
    · have := lF1 _ (n1 _ hx.1.1); omega
  · rcases hx with (((rfl | hx | hx) | (rfl | hx | hx)) | rfl)
    · omega
    · have := t0 x hx; omega
    · exact hx.2
    · omega
    · have := t1 x hx; omega
    · exact hx.2
    · exact z3
  · rcases hx with rfl | hx
    · have := lF0 _ i0; omega
    · have := lF0 x (l0 x hx); omega
  · have := lF0 x (n0 x hx); omega
  · rcases hx with rfl | hx
    · have := lF1 _ i1; omega
    · have := lF1 x (l1 x hx); omega
  · have := lF1 x (n1 x hx); omega
  · have h0 : F0 x := by rcases hx with rfl | hx; exact i0; exact l0 x hx
    have h1 : F1 x := by rcases hy with rfl | hy; exact i1; exact l1 x hy
    exact h.a x h0 h1
  · have h0 : F0 d := by rcases hx with h | hx; exact h ▸ i0; exact l0 d hx
    exact h.n0 h0
  · have h0 : F1 d := by rcases hx with h | hx; exact h ▸ i1; exact l1 d hx
    exact h.n1 h0
  · have h0 : F0 x := by rcases hx with rfl | hx; exact i0; exact l0 x hx
    exact h.a x h0 (n1 x hy)
  · have h1 : F1 x := by rcases hx with rfl | hx; exact i1; exact l1 x hx
    exact h.a x (n0 x hy) h1
  · have : F x := by
      rcases hx with ((rfl | hx) | (rfl | hx)) | rfl
      · exact h.i0 _ i0
      · exact h.i0 x (l0 x hx)
      · exact h.i1 _ i1
      · exact h.i1 x (l1 x hx)
      · exact h.id_
    have := hlt x this
    omega
  · rcases hx with ((rfl | hx) | (rfl | hx)) | rfl
    · exact h.i0 _ i0
    · exact h.i0 x (l0 x hx)
    · exact h.i1 _ i1
    · exact h.i1 x (l1 x hx)
    · exact h.id_
  · have kx : F x := by
      rcases hx with ((rfl | hx) | (rfl | hx)) | rfl
      · exact h.i0 _ i0
      · exact h.i0 x (l0 x hx)
      · exact h.i1 _ i1
      · exact h.i1 x (l1 x hx)
      · exact h.id_
    have kl := hlt x kx
    have nn : (N0 x ∨ N1 x) := by
      rcases hy with (((rfl | hy | hy) | (rfl | hy | hy)) | rfl)
      · omega
      · have := hL0 x hy; omega
      · exact .inl hy.1.1
      · omega
      · have := hL1 x hy; omega
      · exact .inr hy.1.1
      · omega
    rcases nn with nn | nn
    · rcases hx with ((rfl | hx) | (rfl | hx)) | rfl
      · exact A0.1 nn
      · exact A0.2 x hx nn
      · exact h.a _ (n0 _ nn) i1
      · exact h.a x (n0 x nn) (l1 x hx)
      · exact h.n0 (n0 _ nn)
    · rcases hx with ((rfl | hx) | (rfl | hx)) | rfl
      · exact h.a _ i0 (n1 _ nn)
      · exact h.a x (l0 x hx) (n1 x nn)
      · exact A1.1 nn
      · exact A1.2 x hx nn
      · exact h.n1 (n1 _ nn)
set_option maxHeartbeats 4000000 in
theorem dx_copy {w : World} {F : Nat → Prop} {d b0 b1 : Nat} {F0 F1 : Nat → Prop} {s : DM} (h : DR w F d b0 b1 F0 F1 s) :
    Calls Try.prog 23 #[.pointer (some ⟨d, 0, none⟩)] w fun e w' => ∃ d' F' Fo Fo0 Fo1 M0 M1, e = .returned (.pointer (some ⟨d', 0, none⟩)) ∧ Fr [] w w' ∧ (∀ x, F' x → F x ∨ w.heap.size ≤ x) ∧ Dx w' F' d' s ∧ DW w' Fo d b0 b1 Fo0 Fo1 M0 M1 s ∧ ∀ x, Fo x → F x ∧ ¬ F' x := by
  have HCK := Lib.hid (dx_check_ok h.b (k := 0) (by omega))
  obtain ⟨N0, L0', s0, n0, l0, i0, t0⟩ := id h.h0
  obtain ⟨N1, L1', s1, n1, l1, i1, t1⟩ := id h.h1
  have HC0 := Lib.hid fun w' (f : Fr [] w w') => st_copy (s0.keep0 f)
  have HC1 := Lib.hid fun w' (f : Fr [] w w') => st_copy (s1.keep0 f)
  have HH := Lib.hid h
  have HN := Lib.hid (And.intro n0 n1)
  have HS0 := Lib.hid (And.intro s0 (And.intro l0 i0))
  have HS1 := Lib.hid (And.intro s1 (And.intro l1 i1))
  have HFA := Lib.hid fun (w' : World) (f : Fr [] w w') => (show w'.cell? ⟨d, 0, none⟩ = some (.pointer (some ⟨b0, 0, none⟩)) ∧ w'.cell? ⟨d, 1, none⟩ = some (.pointer (some ⟨b1, 0, none⟩)) ∧ w'.cell? ⟨d, 2, none⟩ = some (.bool s.x0) ∧ w'.cell? ⟨d, 3, none⟩ = some (.bool s.x1) from (let q := f.keep (show w.heap[d]? = _ from HH.out.b) (by simp); ⟨cell_of q, cell_of q, cell_of q, cell_of q⟩))
  clear h s0 s1 n0 l0 i0 t0 n1 l1 i1 t1
  have HES := Lib.hid (Go.Proofs.enters_of Try.func43 (by kernel_rfl) rfl)
  go_enter Try.func23, Try.ntmps23
  go_wp2_with fail
  refine HCK.out.mono ?_
  rintro e w' ⟨rfl, rfl⟩
  go_wp2_with fail
  have fd : Fr [] w w.drew := (Fr.refl _ _).drew
  refine wp_region_order [(0, true), (1, true), (2, true), (3, true), (4, true), (6, true), (7, true), (8, true), (9, true), (10, true), (13, true), (14, true), (15, true), (16, true), (5, false), (11, false), (12, true), (17, true), (18, false), (19, true)] (fun w' => Fr [] w w') (by kernel_rfl) (by kernel_rfl) fd ?_
  intro OPS HOPS
  have hops := HOPS.out
  try simp only [List.append_eq, List.cons_append, List.nil_append] at hops
  replace HOPS := Lib.hid hops
  clear hops
  refine walkO_take (o := _) (v := ?_) (by rw [HOPS.out]; simp only [gA, gB, gC]; exact rfl) (Or.inl ⟨rfl, ?_⟩) ?_
  rotate_left
  · (intro w hSw; have hSx := HFA.out _ hSw; (try dsimp only at hSx); clear hSw; go_simp) <;> (with_reducible rfl)
  simp only [Act.put, gD, gE, gF]
  refine walkO_take (o := _) (v := ?_) (by rw [HOPS.out]; simp only [gA, gB, gC]; exact rfl) (Or.inl ⟨rfl, ?_⟩) ?_
  rotate_left
  · (intro w hSw; have hSx := HFA.out _ hSw; (try dsimp only at hSx); clear hSw; go_simp) <;> (with_reducible rfl)
  simp only [Act.put, gD, gE, gF]
  refine walkO_take (o := _) (v := ?_) (by rw [HOPS.out]; simp only [gA, gB, gC]; exact rfl) (Or.inl ⟨rfl, ?_⟩) ?_
  rotate_left
  · (intro w hSw; have hSx := HFA.out _ hSw; (try dsimp only at hSx); clear hSw; go_simp) <;> (with_reducible rfl)
  simp only [Act.put, gD, gE, gF]
  refine walkO_take (o := _) (v := ?_) (by rw [HOPS.out]; simp only [gA, gB, gC]; exact rfl) (Or.inl ⟨rfl, ?_⟩) ?_
  rotate_left
  · (intro w hSw; have hSx := HFA.out _ hSw; (try dsimp only at hSx); clear hSw; go_simp) <;> (with_reducible rfl)
  simp only [Act.put, gD, gE, gF]
  refine walkO_take (o := _) (v := ?_) (by rw [HOPS.out]; simp only [gA, gB, gC]; exact rfl) (Or.inl ⟨rfl, ?_⟩) ?_
  rotate_left
  · (intro w hSw; have hSx := HFA.out _ hSw; (try dsimp only at hSx); clear hSw; go_simp) <;> (with_reducible rfl)
  simp only [Act.put, gD, gE, gF]
  refine walkO_take (o := _) (v := ?_) (by rw [HOPS.out]; simp only [gA, gB, gC]; exact rfl) (Or.inl ⟨rfl, ?_⟩) ?_
  rotate_left
  · (intro w hSw; have hSx := HFA.out _ hSw; (try dsimp only at hSx); clear hSw; go_simp) <;> (with_reducible rfl)
  simp only [Act.put, gD, gE, gF]
  refine walkO_take (o := _) (v := ?_) (by rw [HOPS.out]; simp only [gA, gB, gC]; exact rfl) (Or.inl ⟨rfl, ?_⟩) ?_
  rotate_left
  · (intro w hSw; have hSx := HFA.out _ hSw; (try dsimp only at hSx); clear hSw; go_simp) <;> (with_reducible rfl)
  simp only [Act.put, gD, gE, gF]
  refine walkO_take (o := _) (v := ?_) (by rw [HOPS.out]; simp only [gA, gB, gC]; exact rfl) (Or.inl ⟨rfl, ?_⟩) ?_
  rotate_left
  · (intro w hSw; have hSx := HFA.out _ hSw; (try dsimp only at hSx); clear hSw; go_simp) <;> (with_reducible rfl)
  simp only [Act.put, gD, gE, gF]
  refine walkO_take (o := _) (v := ?_) (by rw [HOPS.out]; simp only [gA, gB, gC]; exact rfl) (Or.inl ⟨rfl, ?_⟩) ?_
  rotate_left
  · (intro w hSw; have hSx := HFA.out _ hSw; (try dsimp only at hSx); clear hSw; go_simp) <;> (with_reducible rfl)
  simp only [Act.put, gD, gE, gF]
  refine walkO_take (o := _) (v := ?_) (by rw [HOPS.out]; simp only [gA, gB, gC]; exact rfl) (Or.inl ⟨rfl, ?_⟩) ?_
  rotate_left
  · (intro w hSw; have hSx := HFA.out _ hSw; (try dsimp only at hSx); clear hSw; go_simp) <;> (with_reducible rfl)
  simp only [Act.put, gD, gE, gF]
  refine walkO_take (o := _) (v := ?_) (by rw [HOPS.out]; simp only [gA, gB, gC]; exact rfl) (Or.inl ⟨rfl, ?_⟩) ?_
  rotate_left
  · (intro w hSw; have hSx := HFA.out _ hSw; (try dsimp only at hSx); clear hSw; go_simp) <;> (with_reducible rfl)
  simp only [Act.put, gD, gE, gF]
  refine walkO_take (o := _) (v := ?_) (by rw [HOPS.out]; simp only [gA, gB, gC]; exact rfl) (Or.inl ⟨rfl, ?_⟩) ?_
  rotate_left
  · (intro w hSw; have hSx := HFA.out _ hSw; (try dsimp only at hSx); clear hSw; go_simp) <;> (with_reducible rfl)
  simp only [Act.put, gD, gE, gF]
  refine walkO_take (o := _) (v := ?_) (by rw [HOPS.out]; simp only [gA, gB, gC]; exact rfl) (Or.inl ⟨rfl, ?_⟩) ?_
  rotate_left
  · (intro w hSw; have hSx := HFA.out _ hSw; (try dsimp only at hSx); clear hSw; go_simp) <;> (with_reducible rfl)
  simp only [Act.put, gD, gE, gF]
  refine walkO_take (o := _) (v := ?_) (by rw [HOPS.out]; simp only [gA, gB, gC]; exact rfl) (Or.inl ⟨rfl, ?_⟩) ?_
  rotate_left
  · (intro w hSw; have hSx := HFA.out _ hSw; (try dsimp only at hSx); clear hSw; go_simp) <;> (with_reducible rfl)
  simp only [Act.put, gD, gE, gF]
  refine walkO_call (o := _) (by rw [HOPS.out]; simp only [gA, gB, gC]; exact rfl) (fun K HK => ?_)
  refine step_call rfl 43 #[(.tmp 10)] #[23] rfl HES.out #[.pointer (some ⟨b0, 0, none⟩)] (by simp [Act.eval]) (HC0.out _ fd) ?_
  rintro e w1 ⟨y0, L0, rfl, f0, hy0, hL0, hc0⟩
  have g1 := (fd).then0 f0
  refine ⟨_, rfl, ?_⟩
  refine HK.out (fun w' => Fr [] w w') _ _ (fun _ h => h) (g1) ?_
  clear HK K
  simp only [Act.put, gD, gE, gF]
  refine walkO_call (o := _) (by rw [HOPS.out]; simp only [gA, gB, gC]; exact rfl) (fun K HK => ?_)
  refine step_call rfl 43 #[(.tmp 16)] #[23] rfl HES.out #[.pointer (some ⟨b1, 0, none⟩)] (by simp [Act.eval]) (HC1.out _ g1) ?_
  rintro e w2 ⟨y1, L1, rfl, f1, hy1, hL1, hc1⟩
  have g2 := (g1).then0 f1
  refine ⟨_, rfl, ?_⟩
  refine HK.out (fun w' => Fr [] w w') _ _ (fun _ h => h) (g2) ?_
  clear HK K
  simp only [Act.put, gD, gE, gF]
  refine walkO_take (o := _) (v := ?_) (by rw [HOPS.out]; simp only [gA, gB, gC]; exact rfl) (Or.inl ⟨rfl, ?_⟩) ?_
  rotate_left
  · (intro w hSw; have hSx := HFA.out _ hSw; (try dsimp only at hSx); clear hSw; go_simp) <;> (with_reducible rfl)
  simp only [Act.put, gD, gE, gF]
  refine walkO_take (o := _) (v := ?_) (by rw [HOPS.out]; simp only [gA, gB, gC]; exact rfl) (Or.inl ⟨rfl, ?_⟩) ?_
  rotate_left
  · (intro w hSw; have hSx := HFA.out _ hSw; (try dsimp only at hSx); clear hSw; go_simp) <;> (with_reducible rfl)
  simp only [Act.put, gD, gE, gF]
  refine walkO_call (o := _) (by rw [HOPS.out]; simp only [gA, gB, gC]; exact rfl) (fun K HK => ?_)
  go_simp
  obtain ⟨w3, hw3, fb, qb⟩ : ∃ W, w2.alloc (.cells #[.pointer (some ⟨y0, 0, none⟩), .pointer (some ⟨y1, 0, none⟩), .bool s.x0, .bool s.x1] 27) = W ∧ Fr [] w2 W ∧ DB W w2.heap.size y0 y1 s.x0 s.x1 := ⟨_, rfl, (Fr.refl _ _).alloc _, newA rfl⟩
  try rw [hw3]
  have g3 := g2.then0 fb
  refine HK.out (fun w' => Fr [] w w') _ _ (fun _ h => h) (g3) ?_
  clear HK K
  try simp only [Act.put, gD, gE, gF]
  refine walkO_take (o := _) (v := ?_) (by rw [HOPS.out]; simp only [gA, gB, gC]; exact rfl) (Or.inl ⟨rfl, ?_⟩) ?_
  rotate_left
  · (intro w hSw; have hSx := HFA.out _ hSw; (try dsimp only at hSx); clear hSw; go_simp) <;> (with_reducible rfl)
  simp only [Act.put, gD, gE, gF]
  refine walkO_done ?_
  clear HOPS OPS
  go_wp2_with fail
  go_ret
  exact copy_end HH.out HS0.out.1 HS0.out.2.1 HS0.out.2.2 HN.out.1 HS1.out.1 HS1.out.2.1 HS1.out.2.2 HN.out.2 fd f0 hy0 hL0 hc0 f1 hy1 hL1 hc1 fb qb
end Go.Proofs.Ytdoamelhclnphaa
