/-
  A connection's calls by the memory that they write: the parts of its rests may be shared with another one.
-/
import Derived.Test.YtdoamelhclnphaaGs
import Derived.Test.YtdoamelhclnphaaDxClose
namespace Go.Proofs.Ytdoamelhclnphaa
open Go.RowKit
set_option maxRecDepth 100000

def SW (w : World) (F N : Nat → Prop) (b : Nat) (m : SM) : Prop :=
  ∃ L, St w N L b m ∧ (∀ x ∈ L, F x) ∧ F b ∧ (∀ x, F x → x < w.heap.size) ∧ ∀ x, N x → x < w.heap.size
def SWN (w w' : World) (F' N : Nat → Prop) (b : Nat) (m' : SM) : Prop := ∃ N' : Nat → Prop, (∀ x, N' x → N x ∨ w.heap.size ≤ x) ∧ SW w' F' N' b m'
def SWP (w : World) (F N : Nat → Prop) (b : Nat) (m' : SM) (w' : World) : Prop :=
  (∃ S, (∀ x ∈ S, F x ∨ w.heap.size ≤ x) ∧ Fr S w w') ∧ ∃ F' : Nat → Prop, (∀ x, F' x → F x ∨ w.heap.size ≤ x) ∧ SWN w w' F' N b m'
theorem SW.keep {w w' : World} {F N : Nat → Prop} {b : Nat} {m : SM} (h : SW w F N b m) {S : List Nat} (hf : Fr S w w') (hS : ∀ x ∈ S, ¬ F x) (hN : ∀ x ∈ S, ¬ N x) : SW w' F N b m := by
  obtain ⟨L, h1, h2, h3, h4, h5⟩ := h
  exact ⟨L, h1.keep hf (fun hm => hS b hm h3) (fun x hx hm => hS x hm (h2 x hx)) hN, h2, h3, fun x hx => Nat.lt_of_lt_of_le (h4 x hx) hf.size, fun x hx => Nat.lt_of_lt_of_le (h5 x hx) hf.size⟩
theorem SW.keep0 {w w' : World} {F N : Nat → Prop} {b : Nat} {m : SM} (h : SW w F N b m) (hf : Fr [] w w') : SW w' F N b m := h.keep hf (by simp) (by simp)
theorem SWP.of {w w' : World} {F N N' : Nat → Prop} {L L' S : List Nat} {b : Nat} {m' : SM} (hL : ∀ x ∈ L, F x) (hb : F b)
    (hS : ∀ x ∈ S, x = b ∨ x ∈ L) (hf : Fr S w w') (hN' : ∀ x, N' x → N x ∨ w.heap.size ≤ x) (hL' : ∀ x ∈ L', x ∈ L ∨ w.heap.size ≤ x) (h : St w' N' L' b m') : SWP w F N b m' w' := by
  refine ⟨⟨S, fun x hx => ?_, hf⟩, fun x => x = b ∨ x ∈ L', fun x hx => ?_, _, fun x hx => ?_, L', h.there, fun x hx => .inr hx, .inl rfl, fun x hx => ?_, fun x hx => hx.2⟩
  · rcases hS x hx with rfl | hx
    · exact .inl hb
    · exact .inl (hL x hx)
  · rcases hx with rfl | hx
    · exact .inl hb
    · exact (hL' x hx).imp (hL x) id
  · exact hN' x hx.1
  · rcases hx with rfl | hx
    · exact h.lt
    · exact h.ltL x hx
theorem SWP.ahead {w0 w w' : World} {F N : Nat → Prop} {b : Nat} {m' : SM} (hf : Fr [] w0 w) (h : SWP w F N b m' w') : SWP w0 F N b m' w' := by
  obtain ⟨⟨S, hS, f⟩, F', hF', N', hN', h'⟩ := h
  have hs := hf.size
  exact ⟨⟨S, fun x hx => (hS x hx).imp id (fun h => by omega), hf.trans f (by simp) (fun x hx => .inl hx)⟩, F', fun x hx => (hF' x hx).imp id (fun h => by omega), N', fun x hx => (hN' x hx).imp id (fun h => by omega), h'⟩
section
variable {w : World} {F N : Nat → Prop} {b : Nat} {m : SM}
theorem sw_cancel (h : SW w F N b m) :
    Calls Try.prog 34 #[.pointer (some ⟨b, 0, none⟩)] w fun e w' => e = .returned (.tuple #[.int .i64 (cancelM m).n, .int .i64 (cancelM m).err]) ∧ SWP w F N b (cancelM m).m w' := by
  obtain ⟨L, h1, hL, hb, hF, hN⟩ := h
  refine (st_cancel h1).mono ?_
  rintro e w' ⟨he, f, h'⟩
  exact ⟨he, SWP.of hL hb (fun x hx => .inl (by simpa using hx)) f (fun x hx => .inl hx) (fun x hx => .inl hx) h'⟩
theorem sw_closew (h : SW w F N b m) (x : Int) :
    Calls Try.prog 36 #[.pointer (some ⟨b, 0, none⟩), .int .i64 x] w fun e w' => e = .returned (.int .i64 (closewM m x).err) ∧ SWP w F N b (closewM m x).m w' := by
  obtain ⟨L, h1, hL, hb, hF, hN⟩ := h
  refine (st_closew h1 x).mono ?_
  rintro e w' ⟨he, f, N', L', hN', hL', h'⟩
  exact ⟨he, SWP.of hL hb (fun x hx => List.mem_cons.1 hx) f hN' hL' h'⟩
theorem sw_closer (h : SW w F N b m) (x : Int) :
    Calls Try.prog 40 #[.pointer (some ⟨b, 0, none⟩), .int .i64 x] w fun e w' => e = .returned (.int .i64 (closerM m x).err) ∧ SWP w F N b (closerM m x).m w' := by
  obtain ⟨L, h1, hL, hb, hF, hN⟩ := h
  refine (st_closer h1 x).mono ?_
  rintro e w' ⟨he, f, N', L', hN', hL', h'⟩
  exact ⟨he, SWP.of hL hb (fun x hx => List.mem_cons.1 hx) f hN' hL' h'⟩
end
structure DW (w : World) (F : Nat → Prop) (d b0 b1 : Nat) (F0 F1 N0 N1 : Nat → Prop) (s : DM) : Prop where
  b : DB w d b0 b1 s.x0 s.x1
  h0 : SW w F0 N0 b0 s.m0
  h1 : SW w F1 N1 b1 s.m1
  a : ∀ x, F0 x → ¬ F1 x
  n0 : ¬ F0 d
  n1 : ¬ F1 d
  c0 : ¬ N0 d
  c1 : ¬ N1 d
  p0 : ∀ x, F0 x → ¬ N1 x
  p1 : ∀ x, F1 x → ¬ N0 x
  i0 : ∀ x, F0 x → F x
  i1 : ∀ x, F1 x → F x
  id_ : F d
  lt : ∀ x, F x → x < w.heap.size
def DwQ (w : World) (F G : Nat → Prop) (d : Nat) (s : DM) (w' : World) : Prop :=
  (∃ S, (∀ x ∈ S, F x ∨ w.heap.size ≤ x) ∧ Fr S w w') ∧ ∃ F' : Nat → Prop, (∀ x, F' x → F x ∨ G x ∨ w.heap.size ≤ x) ∧ ∃ b0 b1 F0 F1 N0 N1, DW w' F' d b0 b1 F0 F1 N0 N1 s
section
variable {w : World} {F : Nat → Prop} {d b0 b1 : Nat} {F0 F1 N0 N1 : Nat → Prop} {s : DM}
theorem DW.sfp0 (h : DW w F d b0 b1 F0 F1 N0 N1 s) {m' : SM} {w' : World} (hp : SWP w F0 N0 b0 m' w') : DwQ w F NoG d { s with m0 := m' } w' := by
  obtain ⟨⟨S, hS, f⟩, F0', hF', N0', hN', h'⟩ := hp
  have hz := f.size
  have hl1 : ∀ x, N1 x → x < w.heap.size := by obtain ⟨_, _, _, _, _, q⟩ := h.h1; exact q
  have nS : ∀ x, x < w.heap.size → ¬ F0 x → x ∉ S := fun x hx hn hm => by
    rcases hS x hm with h1 | h1
    · exact hn h1
    · omega
  have nF : ∀ x, x < w.heap.size → ¬ F0 x → ¬ F0' x := fun x hx hn hm => by
    rcases hF' x hm with h1 | h1
    · exact hn h1
    · omega
  have nN : ∀ x, x < w.heap.size → ¬ N0 x → ¬ N0' x := fun x hx hn hm => by
    rcases hN' x hm with h1 | h1
    · exact hn h1
    · omega
  have hd := h.lt d h.id_
  refine ⟨⟨S, fun x hx => (hS x hx).imp (h.i0 x) id, f⟩, fun x => F0' x ∨ F1 x ∨ x = d, fun x hx => ?_, b0, b1, F0', F1, N0', N1, f.keep h.b (nS d hd h.n0), h', h.h1.keep f (fun x hx hF => nS x (h.lt x (h.i1 x hF)) (fun h0 => h.a x h0 hF) hx) (fun x hx hF => nS x (hl1 x hF) (fun h0 => h.p0 x h0 hF) hx), fun x hx hx1 => nF x (h.lt x (h.i1 x hx1)) (fun h0 => h.a x h0 hx1) hx, nF d hd h.n0, h.n1, nN d hd h.c0, h.c1, fun x hx hn => nF x (hl1 x hn) (fun h0 => h.p0 x h0 hn) hx, fun x hx hn => nN x (h.lt x (h.i1 x hx)) (h.p1 x hx) hn, fun x hx => .inl hx, fun x hx => .inr (.inl hx), .inr (.inr rfl), fun x hx => ?_⟩
  · rcases hx with hx | hx | rfl
    · exact (hF' x hx).imp (h.i0 x) .inr
    · exact .inl (h.i1 x hx)
    · exact .inl h.id_
  · rcases hx with hx | hx | rfl
    · obtain ⟨_, _, _, _, q, _⟩ := h'; exact q x hx
    · exact Nat.lt_of_lt_of_le (h.lt x (h.i1 x hx)) hz
    · exact Nat.lt_of_lt_of_le hd hz
theorem DW.sfp1 (h : DW w F d b0 b1 F0 F1 N0 N1 s) {m' : SM} {w' : World} (hp : SWP w F1 N1 b1 m' w') : DwQ w F NoG d { s with m1 := m' } w' := by
  obtain ⟨⟨S, hS, f⟩, F1', hF', N1', hN', h'⟩ := hp
  have hz := f.size
  have hl0 : ∀ x, N0 x → x < w.heap.size := by obtain ⟨_, _, _, _, _, q⟩ := h.h0; exact q
  have nS : ∀ x, x < w.heap.size → ¬ F1 x → x ∉ S := fun x hx hn hm => by
    rcases hS x hm with h1 | h1
    · exact hn h1
    · omega
  have nF : ∀ x, x < w.heap.size → ¬ F1 x → ¬ F1' x := fun x hx hn hm => by
    rcases hF' x hm with h1 | h1
    · exact hn h1
    · omega
  have nN : ∀ x, x < w.heap.size → ¬ N1 x → ¬ N1' x := fun x hx hn hm => by
    rcases hN' x hm with h1 | h1
    · exact hn h1
    · omega
  have hd := h.lt d h.id_
  refine ⟨⟨S, fun x hx => (hS x hx).imp (h.i1 x) id, f⟩, fun x => F0 x ∨ F1' x ∨ x = d, fun x hx => ?_, b0, b1, F0, F1', N0, N1', f.keep h.b (nS d hd h.n1), h.h0.keep f (fun x hx hF => nS x (h.lt x (h.i0 x hF)) (h.a x hF) hx) (fun x hx hF => nS x (hl0 x hF) (fun h0 => h.p1 x h0 hF) hx), h', fun x hx hx1 => nF x (h.lt x (h.i0 x hx)) (h.a x hx) hx1, h.n0, nF d hd h.n1, h.c0, nN d hd h.c1, fun x hx hn => nN x (h.lt x (h.i0 x hx)) (h.p0 x hx) hn, fun x hx hn => nF x (hl0 x hn) (fun h0 => h.p1 x h0 hn) hx, fun x hx => .inl hx, fun x hx => .inr (.inl hx), .inr (.inr rfl), fun x hx => ?_⟩
  · rcases hx with hx | hx | rfl
    · exact .inl (h.i0 x hx)
    · exact (hF' x hx).imp (h.i1 x) .inr
    · exact .inl h.id_
  · rcases hx with hx | hx | rfl
    · exact Nat.lt_of_lt_of_le (h.lt x (h.i0 x hx)) hz
    · obtain ⟨_, _, _, _, q, _⟩ := h'; exact q x hx
    · exact Nat.lt_of_lt_of_le hd hz
set_option maxHeartbeats 2000000 in
theorem dw_cancel0 (h : DW w F d b0 b1 F0 F1 N0 N1 s) :
    Calls Try.prog 14 #[.pointer (some ⟨d, 0, none⟩), .int .i64 0] w fun e w' => e = .returned (.tuple #[.int .i64 (cancelM s.m0).n, .int .i64 (cancelM s.m0).err]) ∧ DwQ w F NoG d { s with m0 := (cancelM s.m0).m } w' := by
  have HCK := Lib.hid (dx_check_ok h.b (k := 0) (by omega))
  have HH := Lib.hid h
  have HC := Lib.hid fun w' (f : Fr [] w w') => sw_cancel (h.h0.keep0 f)
  have hc0 : w.cell? ⟨d, 0, none⟩ = some (.pointer (some ⟨b0, 0, none⟩)) := cell_of h.b
  have hlt := h.lt
  have hi := h.i0
  have hnn := h.n0
  have hbb := Lib.hid h.b
  have hdl := h.lt _ h.id_
  clear h
  have HEI := Lib.hid (Go.Proofs.enters_of Try.func67 (by kernel_rfl) rfl)
  have HES := Lib.hid (Go.Proofs.enters_of Try.func34 (by kernel_rfl) rfl)
  go_enter Try.func14, Try.ntmps14
  go_wp2_with fail
  refine HCK.out.mono ?_
  rintro e w' ⟨rfl, rfl⟩
  go_wp2_with fail
  have fd : Fr [] w w.drew := (Fr.refl _ _).drew
  have hcd : w.drew.cell? ⟨d, 0, none⟩ = some (.pointer (some ⟨b0, 0, none⟩)) := hc0
  refine wp_region_order [(0, true), (1, true), (3, true), (4, true), (2, false), (5, true), (6, true), (7, false), (8, true), (9, true), (10, true), (11, true)] (fun w' => w'.cell? ⟨d, 0, none⟩ = some (.pointer (some ⟨b0, 0, none⟩))) (by kernel_rfl) (by kernel_rfl) hcd ?_
  intro OPS HOPS
  have hops := HOPS.out
  try simp only [List.append_eq, List.cons_append, List.nil_append] at hops
  replace HOPS := Lib.hid hops
  clear hops
  refine walkO_take (o := _) (v := ?_) (by rw [HOPS.out]; simp only [gA, gB, gC]; exact rfl) (Or.inl ⟨rfl, ?_⟩) ?_
  rotate_left
  · (intro w hSw; (try dsimp only at hSw); go_simp) <;> (with_reducible rfl)
  simp only [Act.put, gD, gE, gF]
  refine walkO_take (o := _) (v := ?_) (by rw [HOPS.out]; simp only [gA, gB, gC]; exact rfl) (Or.inl ⟨rfl, ?_⟩) ?_
  rotate_left
  · (intro w hSw; (try dsimp only at hSw); go_simp) <;> (with_reducible rfl)
  simp only [Act.put, gD, gE, gF]
  refine walkO_take (o := _) (v := ?_) (by rw [HOPS.out]; simp only [gA, gB, gC]; exact rfl) (Or.inl ⟨rfl, ?_⟩) ?_
  rotate_left
  · (intro w hSw; (try dsimp only at hSw); go_simp) <;> (with_reducible rfl)
  simp only [Act.put, gD, gE, gF]
  refine walkO_take (o := _) (v := ?_) (by rw [HOPS.out]; simp only [gA, gB, gC]; exact rfl) (Or.inl ⟨rfl, ?_⟩) ?_
  rotate_left
  · (intro w hSw; (try dsimp only at hSw); go_simp) <;> (with_reducible rfl)
  simp only [Act.put, gD, gE, gF]
  refine walkO_call (o := _) (by rw [HOPS.out]; simp only [gA, gB, gC]; exact rfl) (fun K HK => ?_)
  refine step_call rfl 67 #[(.tmp 14)] #[114] rfl HEI.out #[.int .i64 0] (by simp [Act.eval]) (end_out _ _) ?_
  rintro e w1 ⟨rfl, rfl⟩
  refine ⟨_, rfl, ?_⟩
  refine HK.out (fun w' => w'.cell? ⟨d, 0, none⟩ = some (.pointer (some ⟨b0, 0, none⟩))) _ _ (fun _ h => h) (hcd) ?_
  clear HK K
  simp only [Act.put, gD, gE, gF]
  refine walkO_take (o := _) (v := ?_) (by rw [HOPS.out]; simp only [gA, gB, gC]; exact rfl) (Or.inl ⟨rfl, ?_⟩) ?_
  rotate_left
  · (intro w hSw; (try dsimp only at hSw); go_simp) <;> (with_reducible rfl)
  simp only [Act.put, gD, gE, gF]
  refine walkO_take (o := _) (v := ?_) (by rw [HOPS.out]; simp only [gA, gB, gC]; exact rfl) (Or.inl ⟨rfl, ?_⟩) ?_
  rotate_left
  · (intro w hSw; (try dsimp only at hSw); go_simp) <;> (with_reducible rfl)
  simp only [Act.put, gD, gE, gF]
  refine walkO_call (o := _) (by rw [HOPS.out]; simp only [gA, gB, gC]; exact rfl) (fun K HK => ?_)
  refine step_call rfl 34 #[(.tmp 19)] #[23] rfl HES.out #[.pointer (some ⟨b0, 0, none⟩)] (by simp [Act.eval]) (HC.out _ fd) ?_
  rintro e w2 ⟨rfl, ⟨S, hS, f2⟩, F', hF', h'⟩
  have hkc : w2.cell? ⟨d, 0, none⟩ = some (.pointer (some ⟨b0, 0, none⟩)) := cell_of (f2.keep hbb.out (fun hm => by rcases hS d hm with h | h; exact hnn h; exact absurd (show w.heap.size ≤ d from h) (by omega)))
  have HP := Lib.hid (show SWP w.drew F0 N0 b0 _ w2 from ⟨⟨S, hS, f2⟩, F', hF', h'⟩)
  clear hS f2 hF' h'
  have hcd2 : w2.cell? ⟨d, 0, none⟩ = some (.pointer (some ⟨b0, 0, none⟩)) := hkc
  refine ⟨_, rfl, ?_⟩
  refine HK.out (fun w' => w'.cell? ⟨d, 0, none⟩ = some (.pointer (some ⟨b0, 0, none⟩))) _ _ (fun _ h => h) (hcd2) ?_
  clear HK K
  simp only [Act.put, gD, gE, gF]
  refine walkO_take (o := _) (v := ?_) (by rw [HOPS.out]; simp only [gA, gB, gC]; exact rfl) (Or.inl ⟨rfl, ?_⟩) ?_
  rotate_left
  · (intro w hSw; (try dsimp only at hSw); go_simp) <;> (with_reducible rfl)
  simp only [Act.put, gD, gE, gF]
  refine walkO_take (o := _) (v := ?_) (by rw [HOPS.out]; simp only [gA, gB, gC]; exact rfl) (Or.inl ⟨rfl, ?_⟩) ?_
  rotate_left
  · (intro w hSw; (try dsimp only at hSw); go_simp) <;> (with_reducible rfl)
  simp only [Act.put, gD, gE, gF]
  refine walkO_take (o := _) (v := ?_) (by rw [HOPS.out]; simp only [gA, gB, gC]; exact rfl) (Or.inl ⟨rfl, ?_⟩) ?_
  rotate_left
  · (intro w hSw; (try dsimp only at hSw); go_simp) <;> (with_reducible rfl)
  simp only [Act.put, gD, gE, gF]
  refine walkO_take (o := _) (v := ?_) (by rw [HOPS.out]; simp only [gA, gB, gC]; exact rfl) (Or.inl ⟨rfl, ?_⟩) ?_
  rotate_left
  · (intro w hSw; (try dsimp only at hSw); go_simp) <;> (with_reducible rfl)
  simp only [Act.put, gD, gE, gF]
  refine walkO_done ?_
  clear HOPS OPS
  go_wp2_with fail
  go_ret2
  exact ⟨rfl, HH.out.sfp0 (HP.out.ahead fd)⟩
set_option maxHeartbeats 2000000 in
theorem dw_closewrite1 (h : DW w F d b0 b1 F0 F1 N0 N1 s) :
    Calls Try.prog 19 #[.pointer (some ⟨d, 0, none⟩), .int .i64 1] w fun e w' => e = .returned (.int .i64 (closewM s.m1 13).err) ∧ DwQ w F NoG d { s with m1 := (closewM s.m1 13).m } w' := by
  have HCK := Lib.hid (dx_check_ok h.b (k := 1) (by omega))
  have HH := Lib.hid h
  have HC := Lib.hid fun w' (f : Fr [] w w') => sw_closew (h.h1.keep0 f) 13
  have hc0 : w.cell? ⟨d, 1, none⟩ = some (.pointer (some ⟨b1, 0, none⟩)) := cell_of h.b
  have hlt := h.lt
  have hi := h.i1
  have hnn := h.n1
  have hbb := Lib.hid h.b
  have hdl := h.lt _ h.id_
  clear h
  have HEI := Lib.hid (Go.Proofs.enters_of Try.func67 (by kernel_rfl) rfl)
  have HES := Lib.hid (Go.Proofs.enters_of Try.func36 (by kernel_rfl) rfl)
  go_enter Try.func19, Try.ntmps19
  go_wp2_with fail
  refine HCK.out.mono ?_
  rintro e w' ⟨rfl, rfl⟩
  go_wp2_with fail
  have fd : Fr [] w w.drew := (Fr.refl _ _).drew
  have hcd : w.drew.cell? ⟨d, 1, none⟩ = some (.pointer (some ⟨b1, 0, none⟩)) := hc0
  refine wp_region_order [(0, true), (1, true), (3, true), (4, true), (2, false), (5, true), (6, true), (7, false), (8, true)] (fun w' => w'.cell? ⟨d, 1, none⟩ = some (.pointer (some ⟨b1, 0, none⟩))) (by kernel_rfl) (by kernel_rfl) hcd ?_
  intro OPS HOPS
  have hops := HOPS.out
  try simp only [List.append_eq, List.cons_append, List.nil_append] at hops
  replace HOPS := Lib.hid hops
  clear hops
  refine walkO_take (o := _) (v := ?_) (by rw [HOPS.out]; simp only [gA, gB, gC]; exact rfl) (Or.inl ⟨rfl, ?_⟩) ?_
  rotate_left
  · (intro w hSw; (try dsimp only at hSw); go_simp) <;> (with_reducible rfl)
  simp only [Act.put, gD, gE, gF]
  refine walkO_take (o := _) (v := ?_) (by rw [HOPS.out]; simp only [gA, gB, gC]; exact rfl) (Or.inl ⟨rfl, ?_⟩) ?_
  rotate_left
  · (intro w hSw; (try dsimp only at hSw); go_simp) <;> (with_reducible rfl)
  simp only [Act.put, gD, gE, gF]
  refine walkO_take (o := _) (v := ?_) (by rw [HOPS.out]; simp only [gA, gB, gC]; exact rfl) (Or.inl ⟨rfl, ?_⟩) ?_
  rotate_left
  · (intro w hSw; (try dsimp only at hSw); go_simp) <;> (with_reducible rfl)
  simp only [Act.put, gD, gE, gF]
  refine walkO_take (o := _) (v := ?_) (by rw [HOPS.out]; simp only [gA, gB, gC]; exact rfl) (Or.inl ⟨rfl, ?_⟩) ?_
  rotate_left
  · (intro w hSw; (try dsimp only at hSw); go_simp) <;> (with_reducible rfl)
  simp only [Act.put, gD, gE, gF]
  refine walkO_call (o := _) (by rw [HOPS.out]; simp only [gA, gB, gC]; exact rfl) (fun K HK => ?_)
  refine step_call rfl 67 #[(.tmp 13)] #[114] rfl HEI.out #[.int .i64 1] (by simp [Act.eval]) (end_out _ _) ?_
  rintro e w1 ⟨rfl, rfl⟩
  refine ⟨_, rfl, ?_⟩
  refine HK.out (fun w' => w'.cell? ⟨d, 1, none⟩ = some (.pointer (some ⟨b1, 0, none⟩))) _ _ (fun _ h => h) (hcd) ?_
  clear HK K
  simp only [Act.put, gD, gE, gF]
  refine walkO_take (o := _) (v := ?_) (by rw [HOPS.out]; simp only [gA, gB, gC]; exact rfl) (Or.inl ⟨rfl, ?_⟩) ?_
  rotate_left
  · (intro w hSw; (try dsimp only at hSw); go_simp) <;> (with_reducible rfl)
  simp only [Act.put, gD, gE, gF]
  refine walkO_take (o := _) (v := ?_) (by rw [HOPS.out]; simp only [gA, gB, gC]; exact rfl) (Or.inl ⟨rfl, ?_⟩) ?_
  rotate_left
  · (intro w hSw; (try dsimp only at hSw); go_simp) <;> (with_reducible rfl)
  simp only [Act.put, gD, gE, gF]
  refine walkO_call (o := _) (by rw [HOPS.out]; simp only [gA, gB, gC]; exact rfl) (fun K HK => ?_)
  refine step_call rfl 36 #[(.tmp 18), (Operand.const (Value.int IntKind.i64 13))] #[23, 30] rfl HES.out #[.pointer (some ⟨b1, 0, none⟩), .int .i64 13] (by simp [Act.eval]) (HC.out _ fd) ?_
  rintro e w2 ⟨rfl, ⟨S, hS, f2⟩, F', hF', h'⟩
  have hkc : w2.cell? ⟨d, 1, none⟩ = some (.pointer (some ⟨b1, 0, none⟩)) := cell_of (f2.keep hbb.out (fun hm => by rcases hS d hm with h | h; exact hnn h; exact absurd (show w.heap.size ≤ d from h) (by omega)))
  have HP := Lib.hid (show SWP w.drew F1 N1 b1 _ w2 from ⟨⟨S, hS, f2⟩, F', hF', h'⟩)
  clear hS f2 hF' h'
  have hcd2 : w2.cell? ⟨d, 1, none⟩ = some (.pointer (some ⟨b1, 0, none⟩)) := hkc
  refine ⟨_, rfl, ?_⟩
  refine HK.out (fun w' => w'.cell? ⟨d, 1, none⟩ = some (.pointer (some ⟨b1, 0, none⟩))) _ _ (fun _ h => h) (hcd2) ?_
  clear HK K
  simp only [Act.put, gD, gE, gF]
  refine walkO_take (o := _) (v := ?_) (by rw [HOPS.out]; simp only [gA, gB, gC]; exact rfl) (Or.inl ⟨rfl, ?_⟩) ?_
  rotate_left
  · (intro w hSw; (try dsimp only at hSw); go_simp) <;> (with_reducible rfl)
  simp only [Act.put, gD, gE, gF]
  refine walkO_done ?_
  clear HOPS OPS
  go_wp2_with fail
  go_ret
  exact ⟨rfl, HH.out.sfp1 (HP.out.ahead fd)⟩
set_option maxHeartbeats 2000000 in
theorem dw_closeread1 (h : DW w F d b0 b1 F0 F1 N0 N1 s) :
    Calls Try.prog 18 #[.pointer (some ⟨d, 0, none⟩), .int .i64 1] w fun e w' => e = .returned (.int .i64 (closerM s.m0 14).err) ∧ DwQ w F NoG d { s with m0 := (closerM s.m0 14).m } w' := by
  have HCK := Lib.hid (dx_check_ok h.b (k := 1) (by omega))
  have HH := Lib.hid h
  have HC := Lib.hid fun w' (f : Fr [] w w') => sw_closer (h.h0.keep0 f) 14
  have hc0 : w.cell? ⟨d, 0, none⟩ = some (.pointer (some ⟨b0, 0, none⟩)) := cell_of h.b
  have hlt := h.lt
  have hi := h.i0
  have hnn := h.n0
  have hbb := Lib.hid h.b
  have hdl := h.lt _ h.id_
  clear h
  have HEI := Lib.hid (Go.Proofs.enters_of Try.func66 (by kernel_rfl) rfl)
  have HES := Lib.hid (Go.Proofs.enters_of Try.func40 (by kernel_rfl) rfl)
  go_enter Try.func18, Try.ntmps18
  go_wp2_with fail
  refine HCK.out.mono ?_
  rintro e w' ⟨rfl, rfl⟩
  go_wp2_with fail
  have fd : Fr [] w w.drew := (Fr.refl _ _).drew
  have hcd : w.drew.cell? ⟨d, 0, none⟩ = some (.pointer (some ⟨b0, 0, none⟩)) := hc0
  refine wp_region_order [(0, true), (1, true), (3, true), (4, true), (2, false), (5, true), (6, true), (7, false), (8, true)] (fun w' => w'.cell? ⟨d, 0, none⟩ = some (.pointer (some ⟨b0, 0, none⟩))) (by kernel_rfl) (by kernel_rfl) hcd ?_
  intro OPS HOPS
  have hops := HOPS.out
  try simp only [List.append_eq, List.cons_append, List.nil_append] at hops
  replace HOPS := Lib.hid hops
  clear hops
  refine walkO_take (o := _) (v := ?_) (by rw [HOPS.out]; simp only [gA, gB, gC]; exact rfl) (Or.inl ⟨rfl, ?_⟩) ?_
  rotate_left
  · (intro w hSw; (try dsimp only at hSw); go_simp) <;> (with_reducible rfl)
  simp only [Act.put, gD, gE, gF]
  refine walkO_take (o := _) (v := ?_) (by rw [HOPS.out]; simp only [gA, gB, gC]; exact rfl) (Or.inl ⟨rfl, ?_⟩) ?_
  rotate_left
  · (intro w hSw; (try dsimp only at hSw); go_simp) <;> (with_reducible rfl)
  simp only [Act.put, gD, gE, gF]
  refine walkO_take (o := _) (v := ?_) (by rw [HOPS.out]; simp only [gA, gB, gC]; exact rfl) (Or.inl ⟨rfl, ?_⟩) ?_
  rotate_left
  · (intro w hSw; (try dsimp only at hSw); go_simp) <;> (with_reducible rfl)
  simp only [Act.put, gD, gE, gF]
  refine walkO_take (o := _) (v := ?_) (by rw [HOPS.out]; simp only [gA, gB, gC]; exact rfl) (Or.inl ⟨rfl, ?_⟩) ?_
  rotate_left
  · (intro w hSw; (try dsimp only at hSw); go_simp) <;> (with_reducible rfl)
  simp only [Act.put, gD, gE, gF]
  refine walkO_call (o := _) (by rw [HOPS.out]; simp only [gA, gB, gC]; exact rfl) (fun K HK => ?_)
  refine step_call rfl 66 #[(.tmp 13)] #[114] rfl HEI.out #[.int .i64 1] (by simp [Act.eval]) (end_in1 _) ?_
  rintro e w1 ⟨rfl, rfl⟩
  refine ⟨_, rfl, ?_⟩
  refine HK.out (fun w' => w'.cell? ⟨d, 0, none⟩ = some (.pointer (some ⟨b0, 0, none⟩))) _ _ (fun _ h => h) (hcd) ?_
  clear HK K
  simp only [Act.put, gD, gE, gF]
  refine walkO_take (o := _) (v := ?_) (by rw [HOPS.out]; simp only [gA, gB, gC]; exact rfl) (Or.inl ⟨rfl, ?_⟩) ?_
  rotate_left
  · (intro w hSw; (try dsimp only at hSw); go_simp) <;> (with_reducible rfl)
  simp only [Act.put, gD, gE, gF]
  refine walkO_take (o := _) (v := ?_) (by rw [HOPS.out]; simp only [gA, gB, gC]; exact rfl) (Or.inl ⟨rfl, ?_⟩) ?_
  rotate_left
  · (intro w hSw; (try dsimp only at hSw); go_simp) <;> (with_reducible rfl)
  simp only [Act.put, gD, gE, gF]
  refine walkO_call (o := _) (by rw [HOPS.out]; simp only [gA, gB, gC]; exact rfl) (fun K HK => ?_)
  refine step_call rfl 40 #[(.tmp 18), (Operand.const (Value.int IntKind.i64 14))] #[23, 30] rfl HES.out #[.pointer (some ⟨b0, 0, none⟩), .int .i64 14] (by simp [Act.eval]) (HC.out _ fd) ?_
  rintro e w2 ⟨rfl, ⟨S, hS, f2⟩, F', hF', h'⟩
  have hkc : w2.cell? ⟨d, 0, none⟩ = some (.pointer (some ⟨b0, 0, none⟩)) := cell_of (f2.keep hbb.out (fun hm => by rcases hS d hm with h | h; exact hnn h; exact absurd (show w.heap.size ≤ d from h) (by omega)))
  have HP := Lib.hid (show SWP w.drew F0 N0 b0 _ w2 from ⟨⟨S, hS, f2⟩, F', hF', h'⟩)
  clear hS f2 hF' h'
  have hcd2 : w2.cell? ⟨d, 0, none⟩ = some (.pointer (some ⟨b0, 0, none⟩)) := hkc
  refine ⟨_, rfl, ?_⟩
  refine HK.out (fun w' => w'.cell? ⟨d, 0, none⟩ = some (.pointer (some ⟨b0, 0, none⟩))) _ _ (fun _ h => h) (hcd2) ?_
  clear HK K
  simp only [Act.put, gD, gE, gF]
  refine walkO_take (o := _) (v := ?_) (by rw [HOPS.out]; simp only [gA, gB, gC]; exact rfl) (Or.inl ⟨rfl, ?_⟩) ?_
  rotate_left
  · (intro w hSw; (try dsimp only at hSw); go_simp) <;> (with_reducible rfl)
  simp only [Act.put, gD, gE, gF]
  refine walkO_done ?_
  clear HOPS OPS
  go_wp2_with fail
  go_ret
  exact ⟨rfl, HH.out.sfp0 (HP.out.ahead fd)⟩
theorem DW.shut1 {w : World} {F : Nat → Prop} {d b0 b1 : Nat} {F0 F1 N0 N1 : Nat → Prop} {s : DM} (h : DW w F d b0 b1 F0 F1 N0 N1 s) : ∃ W, w.setCell ⟨d, 3, none⟩ (.bool true) = W ∧ Fr [d] w W ∧ DW W F d b0 b1 F0 F1 N0 N1 { s with x1 := true } := by
  have f : Fr [d] w (w.setCell ⟨d, 3, none⟩ (.bool true)) := (Fr.refl _ _).setCell (.inl (by simp)) _
  have hx := heap_setCell_eq (i := 3) (u := .bool true) h.b
  exact ⟨_, rfl, f, by unfold DB; simpa using hx, h.h0.keep f (fun x hx hF => by simp at hx; subst hx; exact h.n0 hF) (fun x hx hF => by simp at hx; subst hx; exact h.c0 hF), h.h1.keep f (fun x hx hF => by simp at hx; subst hx; exact h.n1 hF) (fun x hx hF => by simp at hx; subst hx; exact h.c1 hF), h.a, h.n0, h.n1, h.c0, h.c1, h.p0, h.p1, h.i0, h.i1, h.id_, fun x hx => Nat.lt_of_lt_of_le (h.lt x hx) f.size⟩
theorem dw_close1_yes {w : World} {F : Nat → Prop} {d b0 b1 : Nat} {F0 F1 N0 N1 : Nat → Prop} {s : DM} (h : DW w F d b0 b1 F0 F1 N0 N1 s) (hx : s.x1 = true) :
    Calls Try.prog 17 #[.pointer (some ⟨d, 0, none⟩), .int .i64 1] w fun e w' => e = .returned (.int .i64 14) ∧ w = w' := by
  have HCK := Lib.hid (dx_check_ok h.b (k := 1) (by omega))
  have c : w.cell? ⟨d, 3, none⟩ = some (.bool s.x1) := cell_of h.b
  rw [hx] at c
  clear h hx
  go_enter Try.func17, Try.ntmps17
  go_wp2_with fail
  refine HCK.out.mono ?_
  rintro e w' ⟨rfl, rfl⟩
  go_wp2_with fail
  go_ret
  exact ⟨rfl, rfl⟩
set_option maxHeartbeats 2000000 in
theorem dw_close1 {w : World} {F : Nat → Prop} {d b0 b1 : Nat} {F0 F1 N0 N1 : Nat → Prop} {s : DM} (h : DW w F d b0 b1 F0 F1 N0 N1 s) (hx : s.x1 = false) :
    Calls Try.prog 17 #[.pointer (some ⟨d, 0, none⟩), .int .i64 1] w fun e w' => e = .returned (.int .i64 0) ∧ DwQ w F NoG d (closeS1 s) w' := by
  have HCK := Lib.hid (dx_check_ok h.b (k := 1) (by omega))
  have c : w.cell? ⟨d, 3, none⟩ = some (.bool s.x1) := cell_of h.b
  have g : w.frozen? ⟨d, 3, none⟩ = false := free_of h.b
  rw [hx] at c
  have hi0 : ∀ (x0 x1 : Value) (w : World), (Instr.index 115 (.agg #[x0, x1]) (.int .i64 0)).run Try.prog w = .ok x0 w := fun _ _ _ => by kernel_rfl
  have hi1 : ∀ (x0 x1 : Value) (w : World), (Instr.index 115 (.agg #[x0, x1]) (.int .i64 1)).run Try.prog w = .ok x1 w := fun _ _ _ => by kernel_rfl
  have hmf : ∀ (fn : Fn) (first cap : Array Value) (w : World), (Instr.makeFunc fn first cap).run Try.prog w = .ok (.func fn first cap) w := fun _ _ _ _ => rfl
  obtain ⟨w1, hw1, f1, h1⟩ := h.shut1
  have HD := Lib.hid h.id_
  have HR := Lib.hid (And.intro f1 h1)
  clear h hx f1 h1
  go_enter Try.func17, Try.ntmps17
  go_wp2_with fail
  refine HCK.out.mono ?_
  rintro e w' ⟨rfl, rfl⟩
  go_wp2_with fail
  clear hw1 c g
  refine wp_loop_rounds 3 ?_
  rw [rounds_succ]
  go_wp2_with fail
  refine (dw_closewrite1 HR.out.2).mono ?_
  rintro e w2 ⟨rfl, ⟨S2, hS2, f2⟩, F2, hF2, b0', b1', F0', F1', N0', N1', h2⟩
  have H2 := Lib.hid (And.intro hS2 (And.intro f2 (And.intro hF2 h2)))
  clear hS2 f2 hF2 h2
  go_wp2_with fail
  rw [rounds_succ]
  go_wp2_with fail
  refine (dw_closeread1 H2.out.2.2.2).mono ?_
  rintro e w3 ⟨rfl, ⟨S3, hS3, f3⟩, F3, hF3, h3⟩
  have H3 := Lib.hid (And.intro hS3 (And.intro f3 (And.intro hF3 h3)))
  clear hS3 f3 hF3 h3
  go_wp2_with fail
  rw [rounds_succ]
  go_wp2_with fail
  go_ret
  obtain ⟨f1, h1⟩ := HR.out
  obtain ⟨hS2, f2, hF2, h2⟩ := H2.out
  obtain ⟨hS3, f3, hF3, h3⟩ := H3.out
  have z1 := f1.size
  have z2 := f2.size
  have k2 : ∀ x, F2 x → F x ∨ w.heap.size ≤ x := fun x hx => by
    rcases hF2 x hx with h | h | h
    · exact .inl h
    · exact h.elim
    · exact .inr (by omega)
  refine ⟨rfl, ⟨d :: (S2 ++ S3), fun x hx => ?_, (f1.trans f2 (U := d :: (S2 ++ S3)) (fun x hx => .inl (by simp at hx; simp [hx])) (fun x hx => .inl (by simp [hx]))).trans f3 (fun x hx => .inl hx) (fun x hx => .inl (by simp [hx]))⟩, F3, fun x hx => ?_, h3⟩
  · rcases List.mem_cons.1 hx with rfl | hx
    · exact .inl HD.out
    rcases List.mem_append.1 hx with hx | hx
    · exact (hS2 x hx).imp id (fun h => by omega)
    · rcases hS3 x hx with h | h
      · exact k2 x h
      · exact .inr (by omega)
  · rcases hF3 x hx with h | h | h
    · exact (k2 x h).imp id .inr
    · exact h.elim
    · exact .inr (.inr (by omega))

end
end Go.Proofs.Ytdoamelhclnphaa
