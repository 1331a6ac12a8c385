/-
  Law 15: two connections apart from each other, and from some blocks.
-/
import Derived.Test.YtdoamelhclnphaaDupA
import Derived.Test.YtdoamelhclnphaaDxClose
import Derived.Test.YtdoamelhclnphaaCvB15
namespace Go.Proofs.Ytdoamelhclnphaa
open Go.RowKit
set_option maxRecDepth 100000

/-- Two connections, apart from each other and from the blocks of V, in memory from w0 on. -/
def PX (w0 w : World) (V : Nat → Prop) (d : Nat) (s : DM) (d' : Nat) (t : DM) : Prop :=
  ∃ Fx Fy : Nat → Prop, Dx w Fx d s ∧ Dx w Fy d' t ∧ (∀ x, Fx x → ¬ Fy x) ∧ (∀ x, Fx x → w0.heap.size ≤ x ∧ ¬ V x) ∧ (∀ x, Fy x → w0.heap.size ≤ x ∧ ¬ V x) ∧ ∀ x, V x → x < w.heap.size
/-- Behind a call. -/
def PXS (w0 w : World) (V : Nat → Prop) (d : Nat) (s : DM) (d' : Nat) (t : DM) (w' : World) : Prop :=
  PX w0 w' V d s d' t ∧ ∃ S, Fr S w w' ∧ ∀ x ∈ S, w0.heap.size ≤ x ∧ ¬ V x
/-- As DxQ; the blocks of U have not become the connection's. -/
def DxU (w : World) (F G U : Nat → Prop) (d : Nat) (s : DM) (w' : World) : Prop :=
  (∃ S, (∀ x ∈ S, F x ∨ w.heap.size ≤ x) ∧ Fr S w w') ∧ ∃ F' : Nat → Prop, (∀ x, F' x → F x ∨ G x ∨ w.heap.size ≤ x) ∧ (∀ x, F' x → ¬ U x) ∧ Dx w' F' d s
section
variable {w : World} {F : Nat → Prop} {d b0 b1 : Nat} {F0 F1 : Nat → Prop} {s : DM}
theorem DR.lift0U (h : DR w F d b0 b1 F0 F1 s) {G F0' : Nat → Prop} {m' : SM} {w' : World} {S : List Nat} (hS : ∀ x ∈ S, F0 x ∨ w.heap.size ≤ x) (f : Fr S w w') (hF' : ∀ x, F0' x → F0 x ∨ G x ∨ w.heap.size ≤ x) (hG : ∀ x, G x → ¬ F x) {U : Nat → Prop} (hU : ∀ x, F0' x → ¬ U x) (hUF : ∀ x, F x → ¬ U x) (h' : SF w' F0' b0 m') : DxU w F G U d { s with m0 := m' } w' := by
  have nS : ∀ x, F x → ¬ F0 x → x ∉ S := fun x hx hn hm => by
    rcases hS x hm with h1 | h1
    · exact hn h1
    · have := h.lt x hx; omega
  have hz := f.size
  have n1 : ∀ x, F x → ¬ F0 x → ¬ F0' x := fun x hx hn hx' => by
    rcases hF' x hx' with h1 | h1 | h1
    · exact hn h1
    · exact hG x h1 hx
    · have := h.lt x hx; omega
  refine ⟨⟨S, fun x hx => (hS x hx).imp (h.i0 x) id, f⟩, fun x => F0' x ∨ F1 x ∨ x = d, fun x hx => ?_, (fun x hx => by rcases hx with hx | hx | rfl; exact hU x hx; exact hUF x (h.i1 x hx); exact hUF _ h.id_), b0, b1, F0', F1, f.keep h.b (nS d h.id_ h.n0), h', h.h1.keep f (fun x hx hF => nS x (h.i1 x hF) (h.swap x hF) hx), fun x hx hx1 => n1 x (h.i1 x hx1) (h.swap x hx1) hx, n1 d h.id_ h.n0, h.n1, fun x hx => .inl hx, fun x hx => .inr (.inl hx), .inr (.inr rfl), fun x hx => ?_⟩
  · rcases hx with hx | hx | rfl
    · exact (hF' x hx).imp (h.i0 x) id
    · exact .inl (h.i1 x hx)
    · exact .inl h.id_
  · rcases hx with hx | hx | rfl
    · exact h'.lt x hx
    · exact Nat.lt_of_lt_of_le (h.lt x (h.i1 x hx)) hz
    · exact Nat.lt_of_lt_of_le (h.lt x h.id_) hz
theorem DR.lift1U (h : DR w F d b0 b1 F0 F1 s) {G F1' : Nat → Prop} {m' : SM} {w' : World} {S : List Nat} (hS : ∀ x ∈ S, F1 x ∨ w.heap.size ≤ x) (f : Fr S w w') (hF' : ∀ x, F1' x → F1 x ∨ G x ∨ w.heap.size ≤ x) (hG : ∀ x, G x → ¬ F x) {U : Nat → Prop} (hU : ∀ x, F1' x → ¬ U x) (hUF : ∀ x, F x → ¬ U x) (h' : SF w' F1' b1 m') : DxU w F G U d { s with m1 := m' } w' := by
  have nS : ∀ x, F x → ¬ F1 x → x ∉ S := fun x hx hn hm => by
    rcases hS x hm with h1 | h1
    · exact hn h1
    · have := h.lt x hx; omega
  have hz := f.size
  have n1 : ∀ x, F x → ¬ F1 x → ¬ F1' x := fun x hx hn hx' => by
    rcases hF' x hx' with h1 | h1 | h1
    · exact hn h1
    · exact hG x h1 hx
    · have := h.lt x hx; omega
  refine ⟨⟨S, fun x hx => (hS x hx).imp (h.i1 x) id, f⟩, fun x => F0 x ∨ F1' x ∨ x = d, fun x hx => ?_, (fun x hx => by rcases hx with hx | hx | rfl; exact hUF x (h.i0 x hx); exact hU x hx; exact hUF _ h.id_), b0, b1, F0, F1', f.keep h.b (nS d h.id_ h.n1), h.h0.keep f (fun x hx hF => nS x (h.i0 x hF) (h.a x hF) hx), h', fun x hx hx1 => n1 x (h.i0 x hx) (h.a x hx) hx1, h.n0, n1 d h.id_ h.n1, fun x hx => .inl hx, fun x hx => .inr (.inl hx), .inr (.inr rfl), fun x hx => ?_⟩
  · rcases hx with hx | hx | rfl
    · exact .inl (h.i0 x hx)
    · exact (hF' x hx).imp (h.i1 x) id
    · exact .inl h.id_
  · rcases hx with hx | hx | rfl
    · exact Nat.lt_of_lt_of_le (h.lt x (h.i0 x hx)) hz
    · exact h'.lt x hx
    · exact Nat.lt_of_lt_of_le (h.lt x h.id_) hz
set_option maxHeartbeats 2000000 in
theorem dx_readU0 (h : DR w F d b0 b1 F0 F1 s) (n : Int) :
    Calls Try.prog 12 #[.pointer (some ⟨d, 0, none⟩), .int .i64 0, .int .i64 n] w fun e w' => ∃ u, e = .returned (.tuple #[u, .int .i64 (readM s.m1 n).err]) ∧ Ow w' w.heap.size 5 u ((bi (readM s.m1 n).out).map (Value.int .u8)) ∧ DxU w F NoG (fun x => u.ownBlock = some x) d { s with m1 := (readM s.m1 n).m } w' := by
  have HCK := Lib.hid (dx_check_ok h.b (k := 0) (by omega))
  have HH := Lib.hid h
  have HC := Lib.hid fun w' (f : Fr [] w w') => sf_read (h.h1.keep0 f) n
  have hc0 : w.cell? ⟨d, 1, none⟩ = some (.pointer (some ⟨b1, 0, none⟩)) := cell_of h.b
  have hlt := h.lt
  have hi := h.i1
  have hnn := h.n1
  have hbb := Lib.hid h.b
  have hdl := h.lt _ h.id_
  clear h
  have HEI := Lib.hid (Go.Proofs.enters_of Try.func66 (by kernel_rfl) rfl)
  have HES := Lib.hid (Go.Proofs.enters_of Try.func35 (by kernel_rfl) rfl)
  go_enter Try.func12, Try.ntmps12
  go_wp2_with fail
  refine HCK.out.mono ?_
  rintro e w' ⟨rfl, rfl⟩
  go_wp2_with fail
  have fd : Fr [] w w.drew := (Fr.refl _ _).drew
  have hcd : w.drew.cell? ⟨d, 1, none⟩ = some (.pointer (some ⟨b1, 0, none⟩)) := hc0
  refine wp_region_order [(0, true), (1, true), (3, true), (4, true), (7, true), (2, false), (5, true), (6, true), (8, false), (9, true), (10, true), (11, true), (12, true)] (fun w' => w'.cell? ⟨d, 1, none⟩ = some (.pointer (some ⟨b1, 0, none⟩))) (by kernel_rfl) (by kernel_rfl) hcd ?_
  intro OPS HOPS
  have hops := HOPS.out
  try simp only [List.append_eq, List.cons_append, List.nil_append] at hops
  replace HOPS := Lib.hid hops
  clear hops
  refine walkO_take (o := _) (v := ?_) (by rw [HOPS.out]; simp only [List.getElem?_toArray, List.getElem?_cons_succ, List.getElem?_cons_zero]; exact rfl) (Or.inl ⟨rfl, ?_⟩) ?_
  rotate_left
  · (intro w hSw; (try dsimp only at hSw); go_simp) <;> (with_reducible rfl)
  simp only [Act.put, List.setIfInBounds_toArray, List.set_cons_zero, List.set_cons_succ]
  refine walkO_take (o := _) (v := ?_) (by rw [HOPS.out]; simp only [List.getElem?_toArray, List.getElem?_cons_succ, List.getElem?_cons_zero]; exact rfl) (Or.inl ⟨rfl, ?_⟩) ?_
  rotate_left
  · (intro w hSw; (try dsimp only at hSw); go_simp) <;> (with_reducible rfl)
  simp only [Act.put, List.setIfInBounds_toArray, List.set_cons_zero, List.set_cons_succ]
  refine walkO_take (o := _) (v := ?_) (by rw [HOPS.out]; simp only [List.getElem?_toArray, List.getElem?_cons_succ, List.getElem?_cons_zero]; exact rfl) (Or.inl ⟨rfl, ?_⟩) ?_
  rotate_left
  · (intro w hSw; (try dsimp only at hSw); go_simp) <;> (with_reducible rfl)
  simp only [Act.put, List.setIfInBounds_toArray, List.set_cons_zero, List.set_cons_succ]
  refine walkO_take (o := _) (v := ?_) (by rw [HOPS.out]; simp only [List.getElem?_toArray, List.getElem?_cons_succ, List.getElem?_cons_zero]; exact rfl) (Or.inl ⟨rfl, ?_⟩) ?_
  rotate_left
  · (intro w hSw; (try dsimp only at hSw); go_simp) <;> (with_reducible rfl)
  simp only [Act.put, List.setIfInBounds_toArray, List.set_cons_zero, List.set_cons_succ]
  refine walkO_take (o := _) (v := ?_) (by rw [HOPS.out]; simp only [List.getElem?_toArray, List.getElem?_cons_succ, List.getElem?_cons_zero]; exact rfl) (Or.inl ⟨rfl, ?_⟩) ?_
  rotate_left
  · (intro w hSw; (try dsimp only at hSw); go_simp) <;> (with_reducible rfl)
  simp only [Act.put, List.setIfInBounds_toArray, List.set_cons_zero, List.set_cons_succ]
  refine walkO_call (o := _) (by rw [HOPS.out]; simp only [List.getElem?_toArray, List.getElem?_cons_succ, List.getElem?_cons_zero]; exact rfl) (fun K HK => ?_)
  refine step_call rfl 66 #[(.tmp 16)] #[114] rfl HEI.out #[.int .i64 0] (by simp [Act.eval]) (end_in0 _) ?_
  rintro e w1 ⟨rfl, rfl⟩
  refine ⟨_, rfl, ?_⟩
  refine HK.out (fun w' => w'.cell? ⟨d, 1, none⟩ = some (.pointer (some ⟨b1, 0, none⟩))) _ _ (fun _ h => h) (hcd) ?_
  clear HK K
  simp only [Act.put, List.setIfInBounds_toArray, List.set_cons_zero, List.set_cons_succ]
  refine walkO_take (o := _) (v := ?_) (by rw [HOPS.out]; simp only [List.getElem?_toArray, List.getElem?_cons_succ, List.getElem?_cons_zero]; exact rfl) (Or.inl ⟨rfl, ?_⟩) ?_
  rotate_left
  · (intro w hSw; (try dsimp only at hSw); go_simp) <;> (with_reducible rfl)
  simp only [Act.put, List.setIfInBounds_toArray, List.set_cons_zero, List.set_cons_succ]
  refine walkO_take (o := _) (v := ?_) (by rw [HOPS.out]; simp only [List.getElem?_toArray, List.getElem?_cons_succ, List.getElem?_cons_zero]; exact rfl) (Or.inl ⟨rfl, ?_⟩) ?_
  rotate_left
  · (intro w hSw; (try dsimp only at hSw); go_simp) <;> (with_reducible rfl)
  simp only [Act.put, List.setIfInBounds_toArray, List.set_cons_zero, List.set_cons_succ]
  refine walkO_call (o := _) (by rw [HOPS.out]; simp only [List.getElem?_toArray, List.getElem?_cons_succ, List.getElem?_cons_zero]; exact rfl) (fun K HK => ?_)
  refine step_call rfl 35 #[(.tmp 21), (.tmp 22)] #[23, 3] rfl HES.out #[.pointer (some ⟨b1, 0, none⟩), .int .i64 n] (by simp [Act.eval]) (HC.out _ fd) ?_
  rintro e w2 ⟨u, rfl, ou, ⟨S, hS, f2⟩, F', hF', h'⟩
  replace hS : ∀ x ∈ S, F1 x ∨ w.heap.size ≤ x := fun x hx => .inl (hS x hx)
  have hkc : w2.cell? ⟨d, 1, none⟩ = some (.pointer (some ⟨b1, 0, none⟩)) := cell_of (f2.keep hbb.out (fun hm => by rcases hS d hm with h | h; exact hnn h; exact absurd (show w.heap.size ≤ d from h) (by omega)))
  have HP := Lib.hid (And.intro hS (And.intro f2 (And.intro hF' h')))
  have HO := Lib.hid ou
  clear hS f2 hF' h' ou
  have hcd2 : w2.cell? ⟨d, 1, none⟩ = some (.pointer (some ⟨b1, 0, none⟩)) := hkc
  refine ⟨_, rfl, ?_⟩
  refine HK.out (fun w' => w'.cell? ⟨d, 1, none⟩ = some (.pointer (some ⟨b1, 0, none⟩))) _ _ (fun _ h => h) (hcd2) ?_
  clear HK K
  simp only [Act.put, List.setIfInBounds_toArray, List.set_cons_zero, List.set_cons_succ]
  refine walkO_take (o := _) (v := ?_) (by rw [HOPS.out]; simp only [List.getElem?_toArray, List.getElem?_cons_succ, List.getElem?_cons_zero]; exact rfl) (Or.inl ⟨rfl, ?_⟩) ?_
  rotate_left
  · (intro w hSw; (try dsimp only at hSw); go_simp) <;> (with_reducible rfl)
  simp only [Act.put, List.setIfInBounds_toArray, List.set_cons_zero, List.set_cons_succ]
  refine walkO_take (o := _) (v := ?_) (by rw [HOPS.out]; simp only [List.getElem?_toArray, List.getElem?_cons_succ, List.getElem?_cons_zero]; exact rfl) (Or.inl ⟨rfl, ?_⟩) ?_
  rotate_left
  · (intro w hSw; (try dsimp only at hSw); go_simp) <;> (with_reducible rfl)
  simp only [Act.put, List.setIfInBounds_toArray, List.set_cons_zero, List.set_cons_succ]
  refine walkO_take (o := _) (v := ?_) (by rw [HOPS.out]; simp only [List.getElem?_toArray, List.getElem?_cons_succ, List.getElem?_cons_zero]; exact rfl) (Or.inl ⟨rfl, ?_⟩) ?_
  rotate_left
  · (intro w hSw; (try dsimp only at hSw); go_simp) <;> (with_reducible rfl)
  simp only [Act.put, List.setIfInBounds_toArray, List.set_cons_zero, List.set_cons_succ]
  refine walkO_take (o := _) (v := ?_) (by rw [HOPS.out]; simp only [List.getElem?_toArray, List.getElem?_cons_succ, List.getElem?_cons_zero]; exact rfl) (Or.inl ⟨rfl, ?_⟩) ?_
  rotate_left
  · (intro w hSw; (try dsimp only at hSw); go_simp) <;> (with_reducible rfl)
  simp only [Act.put, List.setIfInBounds_toArray, List.set_cons_zero, List.set_cons_succ]
  refine walkO_done ?_
  clear HOPS OPS
  go_wp2_with fail
  go_ret2
  obtain ⟨hS, f2, hF', h'⟩ := HP.out
  exact ⟨_, rfl, HO.out, HH.out.lift1U hS (fd.trans f2 (by simp) (fun x hx => .inl hx)) (fun x hx => (hF' x hx).1.imp id .inr) (fun x hx => hx.elim) (fun x hx => (hF' x hx).2) (fun x hx e => by have h1 := (HO.out.lt x e).1; have h2 := hlt x hx; exact absurd (show w.heap.size ≤ x from h1) (by omega)) h'⟩
set_option maxHeartbeats 2000000 in
theorem dx_readU1 (h : DR w F d b0 b1 F0 F1 s) (n : Int) :
    Calls Try.prog 12 #[.pointer (some ⟨d, 0, none⟩), .int .i64 1, .int .i64 n] w fun e w' => ∃ u, e = .returned (.tuple #[u, .int .i64 (readM s.m0 n).err]) ∧ Ow w' w.heap.size 5 u ((bi (readM s.m0 n).out).map (Value.int .u8)) ∧ DxU w F NoG (fun x => u.ownBlock = some x) d { s with m0 := (readM s.m0 n).m } w' := by
  have HCK := Lib.hid (dx_check_ok h.b (k := 1) (by omega))
  have HH := Lib.hid h
  have HC := Lib.hid fun w' (f : Fr [] w w') => sf_read (h.h0.keep0 f) n
  have hc0 : w.cell? ⟨d, 0, none⟩ = some (.pointer (some ⟨b0, 0, none⟩)) := cell_of h.b
  have hlt := h.lt
  have hi := h.i0
  have hnn := h.n0
  have hbb := Lib.hid h.b
  have hdl := h.lt _ h.id_
  clear h
  have HEI := Lib.hid (Go.Proofs.enters_of Try.func66 (by kernel_rfl) rfl)
  have HES := Lib.hid (Go.Proofs.enters_of Try.func35 (by kernel_rfl) rfl)
  go_enter Try.func12, Try.ntmps12
  go_wp2_with fail
  refine HCK.out.mono ?_
  rintro e w' ⟨rfl, rfl⟩
  go_wp2_with fail
  have fd : Fr [] w w.drew := (Fr.refl _ _).drew
  have hcd : w.drew.cell? ⟨d, 0, none⟩ = some (.pointer (some ⟨b0, 0, none⟩)) := hc0
  refine wp_region_order [(0, true), (1, true), (3, true), (4, true), (7, true), (2, false), (5, true), (6, true), (8, false), (9, true), (10, true), (11, true), (12, true)] (fun w' => w'.cell? ⟨d, 0, none⟩ = some (.pointer (some ⟨b0, 0, none⟩))) (by kernel_rfl) (by kernel_rfl) hcd ?_
  intro OPS HOPS
  have hops := HOPS.out
  try simp only [List.append_eq, List.cons_append, List.nil_append] at hops
  replace HOPS := Lib.hid hops
  clear hops
  refine walkO_take (o := _) (v := ?_) (by rw [HOPS.out]; simp only [List.getElem?_toArray, List.getElem?_cons_succ, List.getElem?_cons_zero]; exact rfl) (Or.inl ⟨rfl, ?_⟩) ?_
  rotate_left
  · (intro w hSw; (try dsimp only at hSw); go_simp) <;> (with_reducible rfl)
  simp only [Act.put, List.setIfInBounds_toArray, List.set_cons_zero, List.set_cons_succ]
  refine walkO_take (o := _) (v := ?_) (by rw [HOPS.out]; simp only [List.getElem?_toArray, List.getElem?_cons_succ, List.getElem?_cons_zero]; exact rfl) (Or.inl ⟨rfl, ?_⟩) ?_
  rotate_left
  · (intro w hSw; (try dsimp only at hSw); go_simp) <;> (with_reducible rfl)
  simp only [Act.put, List.setIfInBounds_toArray, List.set_cons_zero, List.set_cons_succ]
  refine walkO_take (o := _) (v := ?_) (by rw [HOPS.out]; simp only [List.getElem?_toArray, List.getElem?_cons_succ, List.getElem?_cons_zero]; exact rfl) (Or.inl ⟨rfl, ?_⟩) ?_
  rotate_left
  · (intro w hSw; (try dsimp only at hSw); go_simp) <;> (with_reducible rfl)
  simp only [Act.put, List.setIfInBounds_toArray, List.set_cons_zero, List.set_cons_succ]
  refine walkO_take (o := _) (v := ?_) (by rw [HOPS.out]; simp only [List.getElem?_toArray, List.getElem?_cons_succ, List.getElem?_cons_zero]; exact rfl) (Or.inl ⟨rfl, ?_⟩) ?_
  rotate_left
  · (intro w hSw; (try dsimp only at hSw); go_simp) <;> (with_reducible rfl)
  simp only [Act.put, List.setIfInBounds_toArray, List.set_cons_zero, List.set_cons_succ]
  refine walkO_take (o := _) (v := ?_) (by rw [HOPS.out]; simp only [List.getElem?_toArray, List.getElem?_cons_succ, List.getElem?_cons_zero]; exact rfl) (Or.inl ⟨rfl, ?_⟩) ?_
  rotate_left
  · (intro w hSw; (try dsimp only at hSw); go_simp) <;> (with_reducible rfl)
  simp only [Act.put, List.setIfInBounds_toArray, List.set_cons_zero, List.set_cons_succ]
  refine walkO_call (o := _) (by rw [HOPS.out]; simp only [List.getElem?_toArray, List.getElem?_cons_succ, List.getElem?_cons_zero]; exact rfl) (fun K HK => ?_)
  refine step_call rfl 66 #[(.tmp 16)] #[114] rfl HEI.out #[.int .i64 1] (by simp [Act.eval]) (end_in1 _) ?_
  rintro e w1 ⟨rfl, rfl⟩
  refine ⟨_, rfl, ?_⟩
  refine HK.out (fun w' => w'.cell? ⟨d, 0, none⟩ = some (.pointer (some ⟨b0, 0, none⟩))) _ _ (fun _ h => h) (hcd) ?_
  clear HK K
  simp only [Act.put, List.setIfInBounds_toArray, List.set_cons_zero, List.set_cons_succ]
  refine walkO_take (o := _) (v := ?_) (by rw [HOPS.out]; simp only [List.getElem?_toArray, List.getElem?_cons_succ, List.getElem?_cons_zero]; exact rfl) (Or.inl ⟨rfl, ?_⟩) ?_
  rotate_left
  · (intro w hSw; (try dsimp only at hSw); go_simp) <;> (with_reducible rfl)
  simp only [Act.put, List.setIfInBounds_toArray, List.set_cons_zero, List.set_cons_succ]
  refine walkO_take (o := _) (v := ?_) (by rw [HOPS.out]; simp only [List.getElem?_toArray, List.getElem?_cons_succ, List.getElem?_cons_zero]; exact rfl) (Or.inl ⟨rfl, ?_⟩) ?_
  rotate_left
  · (intro w hSw; (try dsimp only at hSw); go_simp) <;> (with_reducible rfl)
  simp only [Act.put, List.setIfInBounds_toArray, List.set_cons_zero, List.set_cons_succ]
  refine walkO_call (o := _) (by rw [HOPS.out]; simp only [List.getElem?_toArray, List.getElem?_cons_succ, List.getElem?_cons_zero]; exact rfl) (fun K HK => ?_)
  refine step_call rfl 35 #[(.tmp 21), (.tmp 22)] #[23, 3] rfl HES.out #[.pointer (some ⟨b0, 0, none⟩), .int .i64 n] (by simp [Act.eval]) (HC.out _ fd) ?_
  rintro e w2 ⟨u, rfl, ou, ⟨S, hS, f2⟩, F', hF', h'⟩
  replace hS : ∀ x ∈ S, F0 x ∨ w.heap.size ≤ x := fun x hx => .inl (hS x hx)
  have hkc : w2.cell? ⟨d, 0, none⟩ = some (.pointer (some ⟨b0, 0, none⟩)) := cell_of (f2.keep hbb.out (fun hm => by rcases hS d hm with h | h; exact hnn h; exact absurd (show w.heap.size ≤ d from h) (by omega)))
  have HP := Lib.hid (And.intro hS (And.intro f2 (And.intro hF' h')))
  have HO := Lib.hid ou
  clear hS f2 hF' h' ou
  have hcd2 : w2.cell? ⟨d, 0, none⟩ = some (.pointer (some ⟨b0, 0, none⟩)) := hkc
  refine ⟨_, rfl, ?_⟩
  refine HK.out (fun w' => w'.cell? ⟨d, 0, none⟩ = some (.pointer (some ⟨b0, 0, none⟩))) _ _ (fun _ h => h) (hcd2) ?_
  clear HK K
  simp only [Act.put, List.setIfInBounds_toArray, List.set_cons_zero, List.set_cons_succ]
  refine walkO_take (o := _) (v := ?_) (by rw [HOPS.out]; simp only [List.getElem?_toArray, List.getElem?_cons_succ, List.getElem?_cons_zero]; exact rfl) (Or.inl ⟨rfl, ?_⟩) ?_
  rotate_left
  · (intro w hSw; (try dsimp only at hSw); go_simp) <;> (with_reducible rfl)
  simp only [Act.put, List.setIfInBounds_toArray, List.set_cons_zero, List.set_cons_succ]
  refine walkO_take (o := _) (v := ?_) (by rw [HOPS.out]; simp only [List.getElem?_toArray, List.getElem?_cons_succ, List.getElem?_cons_zero]; exact rfl) (Or.inl ⟨rfl, ?_⟩) ?_
  rotate_left
  · (intro w hSw; (try dsimp only at hSw); go_simp) <;> (with_reducible rfl)
  simp only [Act.put, List.setIfInBounds_toArray, List.set_cons_zero, List.set_cons_succ]
  refine walkO_take (o := _) (v := ?_) (by rw [HOPS.out]; simp only [List.getElem?_toArray, List.getElem?_cons_succ, List.getElem?_cons_zero]; exact rfl) (Or.inl ⟨rfl, ?_⟩) ?_
  rotate_left
  · (intro w hSw; (try dsimp only at hSw); go_simp) <;> (with_reducible rfl)
  simp only [Act.put, List.setIfInBounds_toArray, List.set_cons_zero, List.set_cons_succ]
  refine walkO_take (o := _) (v := ?_) (by rw [HOPS.out]; simp only [List.getElem?_toArray, List.getElem?_cons_succ, List.getElem?_cons_zero]; exact rfl) (Or.inl ⟨rfl, ?_⟩) ?_
  rotate_left
  · (intro w hSw; (try dsimp only at hSw); go_simp) <;> (with_reducible rfl)
  simp only [Act.put, List.setIfInBounds_toArray, List.set_cons_zero, List.set_cons_succ]
  refine walkO_done ?_
  clear HOPS OPS
  go_wp2_with fail
  go_ret2
  obtain ⟨hS, f2, hF', h'⟩ := HP.out
  exact ⟨_, rfl, HO.out, HH.out.lift0U hS (fd.trans f2 (by simp) (fun x hx => .inl hx)) (fun x hx => (hF' x hx).1.imp id .inr) (fun x hx => hx.elim) (fun x hx => (hF' x hx).2) (fun x hx e => by have h1 := (HO.out.lt x e).1; have h2 := hlt x hx; exact absurd (show w.heap.size ≤ x from h1) (by omega)) h'⟩
end
section
variable {w0 w w' : World} {V : Nat → Prop} {d d' : Nat} {s t : DM}
theorem PX.swap (h : PX w0 w V d s d' t) : PX w0 w V d' t d s := by
  obtain ⟨Fx, Fy, h1, h2, h3, h4, h5, h6⟩ := h
  exact ⟨Fy, Fx, h2, h1, fun x hy hx => h3 x hx hy, h5, h4, h6⟩
theorem PXS.swap (h : PXS w0 w V d s d' t w') : PXS w0 w V d' t d s w' := ⟨h.1.swap, h.2⟩
theorem PX.keep0 (h : PX w0 w V d s d' t) (f : Fr [] w w') : PX w0 w' V d s d' t := by
  obtain ⟨Fx, Fy, h1, h2, h3, h4, h5, h6⟩ := h
  exact ⟨Fx, Fy, h1.keep0 f, h2.keep0 f, h3, h4, h5, fun x hx => Nat.lt_of_lt_of_le (h6 x hx) f.size⟩
theorem PX.less {V' : Nat → Prop} (h : PX w0 w V d s d' t) (hV : ∀ x, V' x → V x) : PX w0 w V' d s d' t := by
  obtain ⟨Fx, Fy, h1, h2, h3, h4, h5, h6⟩ := h
  exact ⟨Fx, Fy, h1, h2, h3, fun x hx => ⟨(h4 x hx).1, fun hv => (h4 x hx).2 (hV x hv)⟩, fun x hx => ⟨(h5 x hx).1, fun hv => (h5 x hx).2 (hV x hv)⟩, fun x hx => h6 x (hV x hx)⟩
/-- New memory may be kept apart. -/
theorem PX.more (h : PX w0 w NoG d s d' t) (f : Fr [] w w') : PX w0 w' (fun x => w.heap.size ≤ x ∧ x < w'.heap.size) d s d' t := by
  obtain ⟨Fx, Fy, h1, h2, h3, h4, h5, h6⟩ := h
  have l1 := h1.lt
  have l2 := h2.lt
  exact ⟨Fx, Fy, h1.keep0 f, h2.keep0 f, h3, fun x hx => ⟨(h4 x hx).1, fun hv => by have := l1 x hx; omega⟩, fun x hx => ⟨(h5 x hx).1, fun hv => by have := l2 x hx; omega⟩, fun x hx => hx.2⟩
theorem PX.set {Fx Fy G V' : Nat → Prop} {s' : DM} (hy : Dx w Fy d' t) (hd : ∀ x, Fx x → ¬ Fy x) (lx : ∀ x, Fx x → w0.heap.size ≤ x ∧ ¬ V x) (ly : ∀ x, Fy x → w0.heap.size ≤ x ∧ ¬ V x) (lv : ∀ x, V' x → V x ∧ x < w.heap.size) (h0 : w0.heap.size ≤ w.heap.size) (hG : ∀ x, G x → w0.heap.size ≤ x ∧ V x ∧ ¬ V' x) (h : DxQ w Fx G d s' w') : PXS w0 w V' d s' d' t w' := by
  obtain ⟨⟨S, hS, f⟩, F', hF', h'⟩ := h
  have hz := f.size
  have l2 := hy.lt
  refine ⟨⟨F', Fy, h', hy.keep f (fun x hx hF => ?_), fun x hx hF => ?_, fun x hx => ?_, fun x hx => ⟨(ly x hx).1, fun hv => (ly x hx).2 (lv x hv).1⟩, fun x hx => Nat.lt_of_lt_of_le (lv x hx).2 hz⟩, S, f, fun x hx => ?_⟩
  · rcases hS x hx with h | h
    · exact hd x h hF
    · have := l2 x hF; omega
  · rcases hF' x hx with h | h | h
    · exact hd x h hF
    · exact (ly x hF).2 (hG x h).2.1
    · have := l2 x hF; omega
  · rcases hF' x hx with h | h | h
    · exact ⟨(lx x h).1, fun hv => (lx x h).2 (lv x hv).1⟩
    · exact ⟨(hG x h).1, (hG x h).2.2⟩
    · exact ⟨by omega, fun hv => by have := (lv x hv).2; omega⟩
  · rcases hS x hx with h | h
    · exact ⟨(lx x h).1, fun hv => (lx x h).2 (lv x hv).1⟩
    · exact ⟨by omega, fun hv => by have := (lv x hv).2; omega⟩
theorem px_finish0 (h : PX w0 w V d s d' t) (h0 : w0.heap.size ≤ w.heap.size) :
    Calls Try.prog 13 #[.pointer (some ⟨d, 0, none⟩), .int .i64 0] w fun e w' => e = .returned (.tuple #[.int .i64 (endM s.m0).n, .int .i64 (endM s.m0).err]) ∧ PXS w0 w V d { s with m0 := (endM s.m0).m } d' t w' := by
  obtain ⟨Fx, Fy, ⟨b0, b1, F0, F1, hx⟩, hy, hd, lx, ly, lv⟩ := h
  refine (dx_finish0 hx).mono ?_
  rintro e w' ⟨he, hq⟩
  exact ⟨he, PX.set hy hd lx ly (fun x hx => ⟨hx, lv x hx⟩) h0 (fun x hx => hx.elim) hq⟩
theorem px_cancel0 (h : PX w0 w V d s d' t) (h0 : w0.heap.size ≤ w.heap.size) :
    Calls Try.prog 14 #[.pointer (some ⟨d, 0, none⟩), .int .i64 0] w fun e w' => e = .returned (.tuple #[.int .i64 (cancelM s.m0).n, .int .i64 (cancelM s.m0).err]) ∧ PXS w0 w V d { s with m0 := (cancelM s.m0).m } d' t w' := by
  obtain ⟨Fx, Fy, ⟨b0, b1, F0, F1, hx⟩, hy, hd, lx, ly, lv⟩ := h
  refine (dx_cancel0 hx).mono ?_
  rintro e w' ⟨he, hq⟩
  exact ⟨he, PX.set hy hd lx ly (fun x hx => ⟨hx, lv x hx⟩) h0 (fun x hx => hx.elim) hq⟩
theorem px_closew0 (h : PX w0 w V d s d' t) (h0 : w0.heap.size ≤ w.heap.size) :
    Calls Try.prog 19 #[.pointer (some ⟨d, 0, none⟩), .int .i64 0] w fun e w' => e = .returned (.int .i64 (closewM s.m0 13).err) ∧ PXS w0 w V d { s with m0 := (closewM s.m0 13).m } d' t w' := by
  obtain ⟨Fx, Fy, ⟨b0, b1, F0, F1, hx⟩, hy, hd, lx, ly, lv⟩ := h
  refine (dx_closewrite0 hx).mono ?_
  rintro e w' ⟨he, hq⟩
  exact ⟨he, PX.set hy hd lx ly (fun x hx => ⟨hx, lv x hx⟩) h0 (fun x hx => hx.elim) hq⟩
theorem px_closer0 (h : PX w0 w V d s d' t) (h0 : w0.heap.size ≤ w.heap.size) :
    Calls Try.prog 18 #[.pointer (some ⟨d, 0, none⟩), .int .i64 0] w fun e w' => e = .returned (.int .i64 (closerM s.m1 14).err) ∧ PXS w0 w V d { s with m1 := (closerM s.m1 14).m } d' t w' := by
  obtain ⟨Fx, Fy, ⟨b0, b1, F0, F1, hx⟩, hy, hd, lx, ly, lv⟩ := h
  refine (dx_closeread0 hx).mono ?_
  rintro e w' ⟨he, hq⟩
  exact ⟨he, PX.set hy hd lx ly (fun x hx => ⟨hx, lv x hx⟩) h0 (fun x hx => hx.elim) hq⟩
theorem px_close0 (h : PX w0 w V d s d' t) (h0 : w0.heap.size ≤ w.heap.size) (hc : s.x0 = false) :
    Calls Try.prog 17 #[.pointer (some ⟨d, 0, none⟩), .int .i64 0] w fun e w' => e = .returned (.int .i64 0) ∧ PXS w0 w V d (closeS0 s) d' t w' := by
  obtain ⟨Fx, Fy, ⟨b0, b1, F0, F1, hx⟩, hy, hd, lx, ly, lv⟩ := h
  refine (dx_close0 hx hc).mono ?_
  rintro e w' ⟨he, hq⟩
  exact ⟨he, PX.set hy hd lx ly (fun x hx => ⟨hx, lv x hx⟩) h0 (fun x hx => hx.elim) hq⟩
theorem px_closeY0 (h : PX w0 w V d s d' t) (h0 : w0.heap.size ≤ w.heap.size) (hc : s.x0 = true) :
    Calls Try.prog 17 #[.pointer (some ⟨d, 0, none⟩), .int .i64 0] w fun e w' => e = .returned (.int .i64 14) ∧ PXS w0 w V d s d' t w' := by
  obtain ⟨Fx, Fy, ⟨b0, b1, F0, F1, hx⟩, hy, hd, lx, ly, lv⟩ := h
  refine (dx_close0_yes hx hc).mono ?_
  rintro e w' ⟨he, rfl⟩
  exact ⟨he, ⟨Fx, Fy, ⟨b0, b1, F0, F1, hx⟩, hy, hd, lx, ly, lv⟩, [], Fr.refl _ _, by simp⟩
theorem px_begin0 {V' N2 : Nat → Prop} {v : Value} {Q : Parts} (h : PX w0 w V d s d' t) (h0 : w0.heap.size ≤ w.heap.size) (hr : Rp w N2 v Q) (hN : ∀ x, N2 x → w0.heap.size ≤ x ∧ V x ∧ ¬ V' x) (hV : ∀ x, V' x → V x) :
    Calls Try.prog 51 #[.pointer (some ⟨d, 0, none⟩), .int .i64 0, v] w fun e w' => e = .returned (.int .i64 (beginM s.m0 Q.flatten).err) ∧ PXS w0 w V' d { s with m0 := (beginM s.m0 Q.flatten).m } d' t w' := by
  obtain ⟨Fx, Fy, ⟨b0, b1, F0, F1, hx⟩, hy, hd, lx, ly, lv⟩ := h
  refine (dx_begin0 hx hr (fun x hx hn => (lx x hx).2 (hN x hn).2.1)).mono ?_
  rintro e w' ⟨he, hq⟩
  exact ⟨he, PX.set hy hd lx ly (fun x hx => ⟨hV x hx, lv x (hV x hx)⟩) h0 (fun x hx => hN x hx.1) hq⟩
theorem px_finish1 (h : PX w0 w V d s d' t) (h0 : w0.heap.size ≤ w.heap.size) :
    Calls Try.prog 13 #[.pointer (some ⟨d, 0, none⟩), .int .i64 1] w fun e w' => e = .returned (.tuple #[.int .i64 (endM s.m1).n, .int .i64 (endM s.m1).err]) ∧ PXS w0 w V d { s with m1 := (endM s.m1).m } d' t w' := by
  obtain ⟨Fx, Fy, ⟨b0, b1, F0, F1, hx⟩, hy, hd, lx, ly, lv⟩ := h
  refine (dx_finish1 hx).mono ?_
  rintro e w' ⟨he, hq⟩
  exact ⟨he, PX.set hy hd lx ly (fun x hx => ⟨hx, lv x hx⟩) h0 (fun x hx => hx.elim) hq⟩
theorem px_cancel1 (h : PX w0 w V d s d' t) (h0 : w0.heap.size ≤ w.heap.size) :
    Calls Try.prog 14 #[.pointer (some ⟨d, 0, none⟩), .int .i64 1] w fun e w' => e = .returned (.tuple #[.int .i64 (cancelM s.m1).n, .int .i64 (cancelM s.m1).err]) ∧ PXS w0 w V d { s with m1 := (cancelM s.m1).m } d' t w' := by
  obtain ⟨Fx, Fy, ⟨b0, b1, F0, F1, hx⟩, hy, hd, lx, ly, lv⟩ := h
  refine (dx_cancel1 hx).mono ?_
  rintro e w' ⟨he, hq⟩
  exact ⟨he, PX.set hy hd lx ly (fun x hx => ⟨hx, lv x hx⟩) h0 (fun x hx => hx.elim) hq⟩
theorem px_closew1 (h : PX w0 w V d s d' t) (h0 : w0.heap.size ≤ w.heap.size) :
    Calls Try.prog 19 #[.pointer (some ⟨d, 0, none⟩), .int .i64 1] w fun e w' => e = .returned (.int .i64 (closewM s.m1 13).err) ∧ PXS w0 w V d { s with m1 := (closewM s.m1 13).m } d' t w' := by
  obtain ⟨Fx, Fy, ⟨b0, b1, F0, F1, hx⟩, hy, hd, lx, ly, lv⟩ := h
  refine (dx_closewrite1 hx).mono ?_
  rintro e w' ⟨he, hq⟩
  exact ⟨he, PX.set hy hd lx ly (fun x hx => ⟨hx, lv x hx⟩) h0 (fun x hx => hx.elim) hq⟩
theorem px_closer1 (h : PX w0 w V d s d' t) (h0 : w0.heap.size ≤ w.heap.size) :
    Calls Try.prog 18 #[.pointer (some ⟨d, 0, none⟩), .int .i64 1] w fun e w' => e = .returned (.int .i64 (closerM s.m0 14).err) ∧ PXS w0 w V d { s with m0 := (closerM s.m0 14).m } d' t w' := by
  obtain ⟨Fx, Fy, ⟨b0, b1, F0, F1, hx⟩, hy, hd, lx, ly, lv⟩ := h
  refine (dx_closeread1 hx).mono ?_
  rintro e w' ⟨he, hq⟩
  exact ⟨he, PX.set hy hd lx ly (fun x hx => ⟨hx, lv x hx⟩) h0 (fun x hx => hx.elim) hq⟩
theorem px_close1 (h : PX w0 w V d s d' t) (h0 : w0.heap.size ≤ w.heap.size) (hc : s.x1 = false) :
    Calls Try.prog 17 #[.pointer (some ⟨d, 0, none⟩), .int .i64 1] w fun e w' => e = .returned (.int .i64 0) ∧ PXS w0 w V d (closeS1 s) d' t w' := by
  obtain ⟨Fx, Fy, ⟨b0, b1, F0, F1, hx⟩, hy, hd, lx, ly, lv⟩ := h
  refine (dx_close1 hx hc).mono ?_
  rintro e w' ⟨he, hq⟩
  exact ⟨he, PX.set hy hd lx ly (fun x hx => ⟨hx, lv x hx⟩) h0 (fun x hx => hx.elim) hq⟩
theorem px_closeY1 (h : PX w0 w V d s d' t) (h0 : w0.heap.size ≤ w.heap.size) (hc : s.x1 = true) :
    Calls Try.prog 17 #[.pointer (some ⟨d, 0, none⟩), .int .i64 1] w fun e w' => e = .returned (.int .i64 14) ∧ PXS w0 w V d s d' t w' := by
  obtain ⟨Fx, Fy, ⟨b0, b1, F0, F1, hx⟩, hy, hd, lx, ly, lv⟩ := h
  refine (dx_close1_yes hx hc).mono ?_
  rintro e w' ⟨he, rfl⟩
  exact ⟨he, ⟨Fx, Fy, ⟨b0, b1, F0, F1, hx⟩, hy, hd, lx, ly, lv⟩, [], Fr.refl _ _, by simp⟩
theorem px_begin1 {V' N2 : Nat → Prop} {v : Value} {Q : Parts} (h : PX w0 w V d s d' t) (h0 : w0.heap.size ≤ w.heap.size) (hr : Rp w N2 v Q) (hN : ∀ x, N2 x → w0.heap.size ≤ x ∧ V x ∧ ¬ V' x) (hV : ∀ x, V' x → V x) :
    Calls Try.prog 51 #[.pointer (some ⟨d, 0, none⟩), .int .i64 1, v] w fun e w' => e = .returned (.int .i64 (beginM s.m1 Q.flatten).err) ∧ PXS w0 w V' d { s with m1 := (beginM s.m1 Q.flatten).m } d' t w' := by
  obtain ⟨Fx, Fy, ⟨b0, b1, F0, F1, hx⟩, hy, hd, lx, ly, lv⟩ := h
  refine (dx_begin1 hx hr (fun x hx hn => (lx x hx).2 (hN x hn).2.1)).mono ?_
  rintro e w' ⟨he, hq⟩
  exact ⟨he, PX.set hy hd lx ly (fun x hx => ⟨hV x hx, lv x (hV x hx)⟩) h0 (fun x hx => hN x hx.1) hq⟩
theorem px_read0 {w0 w : World} {V : Nat → Prop} {d d' : Nat} {s t : DM} (h : PX w0 w V d s d' t) (h0 : w0.heap.size ≤ w.heap.size) (n : Int) :
    Calls Try.prog 12 #[.pointer (some ⟨d, 0, none⟩), .int .i64 0, .int .i64 n] w fun e w' => ∃ u, e = .returned (.tuple #[u, .int .i64 (readM s.m1 n).err]) ∧ Ow w' w.heap.size 5 u ((bi (readM s.m1 n).out).map (Value.int .u8)) ∧ PXS w0 w V d { s with m1 := (readM s.m1 n).m } d' t w' ∧ PX w0 w' (fun x => V x ∨ u.ownBlock = some x) d { s with m1 := (readM s.m1 n).m } d' t := by
  obtain ⟨Fx, Fy, ⟨b0, b1, F0, F1, hx⟩, hy, hd, lx, ly, lv⟩ := h
  have hyl := hy.lt
  refine (dx_readU0 hx n).mono ?_
  rintro e w' ⟨u, he, ou, ⟨S, hS, f⟩, F', hF', hU, h'⟩
  have hz := f.size
  have hul := ou.lt
  have key := PX.set (s' := { s with m1 := (readM s.m1 n).m }) hy hd lx ly (fun x hx => ⟨hx, lv x hx⟩) h0 (G := NoG) (fun x hx => hx.elim) ⟨⟨S, hS, f⟩, F', hF', h'⟩
  refine ⟨u, he, ou, key, F', Fy, h', hy.keep f (fun x hx hF => ?_), fun x hx hF => ?_, fun x hx => ?_, fun x hx => ⟨(ly x hx).1, fun hv => ?_⟩, fun x hx => ?_⟩
  · rcases hS x hx with h | h
    · exact hd x h hF
    · have := hyl x hF; omega
  · rcases hF' x hx with h | h | h
    · exact hd x h hF
    · exact h.elim
    · have := hyl x hF; omega
  · rcases hF' x hx with h | h | h
    · exact ⟨(lx x h).1, fun hv => hv.elim (lx x h).2 (hU x hx)⟩
    · exact h.elim
    · exact ⟨by omega, fun hv => hv.elim (fun hv => by have := lv x hv; omega) (hU x hx)⟩
  · rcases hv with hv | hv
    · exact (ly x hx).2 hv
    · have := (hul x hv).1; have := hyl x hx; omega
  · rcases hx with hx | hx
    · exact Nat.lt_of_lt_of_le (lv x hx) hz
    · exact (hul x hx).2
theorem px_read1 {w0 w : World} {V : Nat → Prop} {d d' : Nat} {s t : DM} (h : PX w0 w V d s d' t) (h0 : w0.heap.size ≤ w.heap.size) (n : Int) :
    Calls Try.prog 12 #[.pointer (some ⟨d, 0, none⟩), .int .i64 1, .int .i64 n] w fun e w' => ∃ u, e = .returned (.tuple #[u, .int .i64 (readM s.m0 n).err]) ∧ Ow w' w.heap.size 5 u ((bi (readM s.m0 n).out).map (Value.int .u8)) ∧ PXS w0 w V d { s with m0 := (readM s.m0 n).m } d' t w' ∧ PX w0 w' (fun x => V x ∨ u.ownBlock = some x) d { s with m0 := (readM s.m0 n).m } d' t := by
  obtain ⟨Fx, Fy, ⟨b0, b1, F0, F1, hx⟩, hy, hd, lx, ly, lv⟩ := h
  have hyl := hy.lt
  refine (dx_readU1 hx n).mono ?_
  rintro e w' ⟨u, he, ou, ⟨S, hS, f⟩, F', hF', hU, h'⟩
  have hz := f.size
  have hul := ou.lt
  have key := PX.set (s' := { s with m0 := (readM s.m0 n).m }) hy hd lx ly (fun x hx => ⟨hx, lv x hx⟩) h0 (G := NoG) (fun x hx => hx.elim) ⟨⟨S, hS, f⟩, F', hF', h'⟩
  refine ⟨u, he, ou, key, F', Fy, h', hy.keep f (fun x hx hF => ?_), fun x hx hF => ?_, fun x hx => ?_, fun x hx => ⟨(ly x hx).1, fun hv => ?_⟩, fun x hx => ?_⟩
  · rcases hS x hx with h | h
    · exact hd x h hF
    · have := hyl x hF; omega
  · rcases hF' x hx with h | h | h
    · exact hd x h hF
    · exact h.elim
    · have := hyl x hF; omega
  · rcases hF' x hx with h | h | h
    · exact ⟨(lx x h).1, fun hv => hv.elim (lx x h).2 (hU x hx)⟩
    · exact h.elim
    · exact ⟨by omega, fun hv => hv.elim (fun hv => by have := lv x hv; omega) (hU x hx)⟩
  · rcases hv with hv | hv
    · exact (ly x hx).2 hv
    · have := (hul x hv).1; have := hyl x hx; omega
  · rcases hx with hx | hx
    · exact Nat.lt_of_lt_of_le (lv x hx) hz
    · exact (hul x hx).2
theorem px_state {w0 w : World} {V : Nat → Prop} {d d' : Nat} {s t : DM} (h : PX w0 w V d s d' t) :
    Calls Try.prog 22 #[.pointer (some ⟨d, 0, none⟩)] w fun e w' => ∃ v, e = .returned v ∧ Fr [] w w' ∧ Cv w' (fun x => w.heap.size ≤ x) v s := by
  obtain ⟨Fx, Fy, ⟨b0, b1, F0, F1, hx⟩, _⟩ := h
  exact dx_state hx

end
end Go.Proofs.Ytdoamelhclnphaa
