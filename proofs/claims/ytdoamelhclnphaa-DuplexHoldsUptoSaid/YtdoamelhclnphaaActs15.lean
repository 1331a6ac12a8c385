/-
  Calls of law 15 as arguments: no reading has more than so many values.
-/
import Derived.Test.YtdoamelhclnphaaLaw14
import Derived.Test.YtdoamelhclnphaaRows
namespace Go.Proofs.Ytdoamelhclnphaa
open Go.ChangeShapes Go.WideShapes Go.Deep Go.RowKit
set_option maxRecDepth 100000

section
variable {H : Type}
theorem bulk_pos (d : DataW H) : 1 ≤ Rows.uptoBulk d := by
  cases d with
  | lit l => cases l <;> simp [Rows.uptoBulk]
  | _ => simp [Rows.uptoBulk]
theorem bulk_len : ∀ (l : List (DataW H)), l.length ≤ Rows.uptoBulkAll l
  | [] => by simp
  | d :: r => by
    have h1 := bulk_pos d
    have h2 := bulk_len r
    simp only [Rows.uptoBulkAll, List.length_cons]
    omega
theorem bulk_at : ∀ {l : List (DataW H)} {i : Nat} {d : DataW H}, l[i]? = some d → Rows.uptoBulk d ≤ Rows.uptoBulkAll l
  | [], i, d, h => by simp at h
  | d0 :: r, 0, d, h => by
    simp at h
    subst h
    simp only [Rows.uptoBulkAll]
    omega
  | d0 :: r, i + 1, d, h => by
    rw [List.getElem?_cons_succ] at h
    have := bulk_at h
    simp only [Rows.uptoBulkAll]
    omega
theorem bulk_slice {el sp : List (DataW H)} : Rows.uptoBulkAll el ≤ Rows.uptoBulk (.slice el sp) := by simp only [Rows.uptoBulk]; omega
theorem bulk_append (a b : List (DataW H)) : Rows.uptoBulkAll (a ++ b) = Rows.uptoBulkAll a + Rows.uptoBulkAll b := by
  induction a with
  | nil => simp [Rows.uptoBulkAll]
  | cons d r ih => simp only [List.cons_append, Rows.uptoBulkAll, ih]; omega
/-- Sums of lengths are under the bulk of the whole. -/
theorem bulk_sum : ∀ {l : List (DataW H)} {f : List Nat}, f.length = l.length → (∀ (i : Nat) (d : DataW H) (n : Nat), l[i]? = some d → f[i]? = some n → n ≤ Rows.uptoBulk d) → f.sum ≤ Rows.uptoBulkAll l
  | [], f, hl, _ => by
    have : f = [] := List.eq_nil_of_length_eq_zero hl
    subst this
    simp
  | d :: r, f, hl, h => by
    match f, hl with
    | n :: g, hl =>
      have h1 := h 0 d n rfl rfl
      have h2 := bulk_sum (l := r) (f := g) (by simpa using hl) (fun i d' n' hi hj => h (i + 1) d' n' (by simpa using hi) (by simpa using hj))
      simp only [List.sum_cons, Rows.uptoBulkAll]
      omega
end
section
variable {H : Type} {enc : TypeId × Value → H} {w : World} {base : Nat}
theorem bytes_ofU {fuel : Nat} {a : Option Addr} {len cap : Nat} {x : DataW H × List MemPlace}
    (h : DataW.trod enc Try.prog w base (fun _ => true) true fuel 29 [.slice a len cap] = some x) : ∃ l, Arg w w.heap.size a len cap l ∧ len ≤ Rows.uptoBulk x.1 := by
  obtain ⟨l, hl⟩ := bytes_of h
  refine ⟨l, hl, ?_⟩
  rcases open_slice Try.underlying29 h with ⟨hcs, _⟩ | ⟨a', len', cap', m, n, D, Pl, hcs, _, _, _, _, hx, _⟩
  · simp at hcs
    omega
  · simp only [List.cons.injEq, Value.slice.injEq, and_true] at hcs
    obtain ⟨rfl, rfl, rfl⟩ := hcs
    rw [hx]
    refine Nat.le_trans ?_ (bulk_slice)
    refine Nat.le_trans ?_ (bulk_len _)
    simp
/-- A slice of slices of bytes, all of it under a bound. -/
structure PArgU (w : World) (M : Nat) (a : Option Addr) (len cap : Nat) (P : Parts) (R : Nat) : Prop where
  len_eq : len = P.length
  le : len ≤ cap
  cap_le : cap ≤ maxLen
  at_ : PartsAt w (fun b => b < M) a P
  tot : tot P ≤ R
theorem PArgU.keep {w w' : World} {M R : Nat} {a : Option Addr} {len cap : Nat} {P : Parts} (h : PArgU w M a len cap P R) {S : List Nat} (hf : Fr S w w') (hS : ∀ x ∈ S, M ≤ x) : PArgU w' M a len cap P R :=
  ⟨h.len_eq, h.le, h.cap_le, h.at_.keep hf (fun x hx hn => by have := hS x hx; omega), h.tot⟩
theorem tot_sum (P : Parts) : tot P = (P.map List.length).sum := by
  rw [tot_eq]
  simp [List.length_flatten]
theorem parts_ofU {fuel : Nat} {a : Option Addr} {len cap : Nat} {x : DataW H × List MemPlace}
    (h : DataW.trod enc Try.prog w base (fun _ => true) true fuel 53 [.slice a len cap] = some x) : ∃ P, PArgU w w.heap.size a len cap P (Rows.uptoBulk x.1) := by
  have hc1 : Try.prog.cellsOf 29 = 1 := by kernel_rfl
  rcases open_slice Try.underlying53 h with ⟨hcs, _⟩ | ⟨a', len', cap', m, n, D, Pl, hcs, _, hl, hm, hmm, hx, hi⟩
  · simp at hcs
    obtain ⟨rfl, rfl, rfl⟩ := hcs
    exact ⟨[], rfl, Nat.le_refl _, by unfold maxLen; omega, PartsAt.nil _ _ _, by simp [tot]⟩
  · simp only [List.cons.injEq, Value.slice.injEq, and_true] at hcs
    obtain ⟨rfl, rfl, rfl⟩ := hcs
    simp only [if_true] at hmm
    subst hmm
    have key : ∀ i, ∃ (v : Value) (l : List UInt8), i < len → w.cell? (a'.add i) = some v ∧ PartV w (fun b => b < w.heap.size) v l ∧ l.length ≤ Rows.uptoBulk (D i) := by
      intro i
      by_cases hlt : i < len
      · obtain ⟨cs', hc, ht'⟩ := hi i (by omega)
        rw [hc1, Nat.mul_one] at hc
        obtain ⟨_, hcl, hat⟩ := World.cells?_some hc
        obtain ⟨v, rfl⟩ := one_of hcl
        have hcell := hat 0 (by omega)
        obtain ⟨pa, pl, pc, rfl⟩ : ∃ pa pl pc, v = .slice pa pl pc := by
          rcases open_slice Try.underlying29 ht' with ⟨hcs, _⟩ | ⟨a2, l2, c2, _, _, _, _, hcs, _⟩
          · simp at hcs; exact ⟨_, _, _, hcs⟩
          · simp at hcs; exact ⟨_, _, _, hcs⟩
        obtain ⟨l, hl', hsz⟩ := bytes_ofU ht'
        refine ⟨.slice pa pl pc, l, fun _ => ⟨?_, ?_, by have := hl'.len_eq; simpa [this] using hsz⟩⟩
        · rw [Go.Deep.add_add] at hcell
          simpa using hcell
        · have e := hl'.len_eq
          subst e
          exact ⟨pa, pc, rfl, hl'.le, hl'.cap_le, hl'.sl, fun b o h0 e => hl'.old b o h0 e⟩
      · exact ⟨.bool false, [], fun h => absurd h hlt⟩
    obtain ⟨V, Lf, hV⟩ : ∃ (V : Nat → Value) (Lf : Nat → List UInt8), ∀ i, i < len → w.cell? (a'.add i) = some (V i) ∧ PartV w (fun b => b < w.heap.size) (V i) (Lf i) ∧ (Lf i).length ≤ Rows.uptoBulk (D i) :=
      ⟨fun i => (key i).choose, fun i => (key i).choose_spec.choose, fun i => (key i).choose_spec.choose_spec⟩
    have hbk : 0 < len → ∃ b o, a' = ⟨b, o, none⟩ ∧ b < w.heap.size := fun h0 => by
      obtain ⟨b, o, s⟩ := a'
      have h1 := (hV 0 h0).1
      have hs : s = none := by simpa [Addr.add] using World.cell?_spot h1
      have := World.block_lt_of_cell? _ _ h1
      exact ⟨b, o, by rw [hs], by simpa [Addr.add, hs] using this⟩
    refine ⟨(List.range len).map Lf, by simp, hl, hm, ⟨(List.range len).map V, by simp, ?_, ?_, ?_⟩, ?_⟩
    · intro h0
      obtain ⟨b, o, rfl, hb⟩ := hbk (by simpa using h0)
      refine ⟨b, o, rfl, hb, fun i hi => ?_⟩
      have hi' : i < len := by simpa using hi
      have h1 := (hV i hi').1
      rw [addr_add] at h1
      rw [h1, List.getElem?_map, List.getElem?_range hi']
      rfl
    · intro b o h0 e
      obtain ⟨b', o', e', hb⟩ := hbk (by simpa using h0)
      rw [e'] at e
      injection e with e
      injection e with e1
      omega
    · intro i p hp
      have hi' : i < len := by
        have := (List.getElem?_eq_some_iff.1 hp).1
        simpa using this
      rw [List.getElem?_map, List.getElem?_range hi'] at hp
      simp at hp
      subst hp
      exact ⟨V i, by rw [List.getElem?_map, List.getElem?_range hi']; rfl, (hV i hi').2.1⟩
    · rw [tot_sum, hx]
      refine Nat.le_trans (bulk_sum (l := (List.range len).map D) (by simp) ?_) (Nat.le_trans ?_ bulk_slice)
      · intro i d n hd hn
        have hi' : i < len := by
          have := (List.getElem?_eq_some_iff.1 hd).1
          simpa using this
        simp [hi'] at hd hn
        subst hd hn
        exact (hV i hi').2.2
      · exact Nat.le_refl _
end
structure A15 where
  what : Int
  en : Int
  ps : Parts
  n : Int
/-- A slice of calls. -/
structure Acts15 (w : World) (M : Nat) (a : Option Addr) (len cap : Nat) (A : List A15) : Prop where
  len_eq : len = A.length
  cap_le : len ≤ maxLen
  at_ : ∀ i (hi : i < A.length), ∃ b o pa pl pc, a = some (⟨b, o, none⟩ : Addr) ∧ b < M ∧ b < w.heap.size ∧ w.cell? ⟨b, o + i * 4, none⟩ = some (.int .i64 A[i].what) ∧ w.cell? ⟨b, o + i * 4 + 1, none⟩ = some (.int .i64 A[i].en) ∧ w.cell? ⟨b, o + i * 4 + 2, none⟩ = some (.slice pa pl pc) ∧ w.cell? ⟨b, o + i * 4 + 3, none⟩ = some (.int .i64 A[i].n) ∧ PArgU w M pa pl pc A[i].ps 1048576
theorem Acts15.keep {w w' : World} {M : Nat} {a : Option Addr} {len cap : Nat} {A : List A15} (h : Acts15 w M a len cap A) {S : List Nat} (hf : Fr S w w') (hM : M ≤ w.heap.size) (hS : ∀ x ∈ S, M ≤ x) : Acts15 w' M a len cap A :=
  ⟨h.len_eq, h.cap_le, fun i hi => by
    obtain ⟨b, o, pa, pl, pc, e, h1, h2, c0, c1, c2, c3, hs⟩ := h.at_ i hi
    have hn : b ∉ S := fun hm => by have := hS b hm; omega
    have hk : ∀ k, w'.cell? ⟨b, k, none⟩ = w.cell? ⟨b, k, none⟩ := fun k => World.cell?_of_block (w := w) (hf.block b h2 hn)
    exact ⟨b, o, pa, pl, pc, e, h1, Nat.lt_of_lt_of_le h2 hf.size, (hk _).trans c0, (hk _).trans c1, (hk _).trans c2, (hk _).trans c3, hs.keep hf hS⟩⟩
theorem four_of {α : Type} {cs : List α} (h : cs.length = 4) : ∃ a b c d, cs = [a, b, c, d] := by
  match cs, h with
  | [a, b, c, d], _ => exact ⟨a, b, c, d, rfl⟩
section
variable {H : Type} {enc : TypeId × Value → H} {w : World} {base : Nat}
theorem acts15_of {fuel : Nat} {a : Option Addr} {len cap : Nat} {x : DataW H × List MemPlace}
    (h : DataW.trod enc Try.prog w base (fun _ => true) true fuel 87 [.slice a len cap] = some x) (hw : Rows.uptoBulk x.1 ≤ 1048576) : ∃ A, Acts15 w w.heap.size a len cap A := by
  have hC : Try.prog.cellsOf 94 = 4 := by kernel_rfl
  have hu := Try.underlying94
  rcases open_slice Try.underlying87 h with ⟨hcs, _⟩ | ⟨a', len', cap', m, n, D, Pl, hcs, _, hl, hm, hmm, hx, hi⟩
  · simp at hcs
    obtain ⟨rfl, rfl, rfl⟩ := hcs
    exact ⟨[], rfl, by unfold maxLen; omega, fun i hi => absurd hi (Nat.not_lt_zero i)⟩
  · simp only [List.cons.injEq, Value.slice.injEq, and_true] at hcs
    obtain ⟨rfl, rfl, rfl⟩ := hcs
    simp only [if_true] at hmm
    subst hmm
    rw [hx] at hw
    have hwe := Nat.le_trans (bulk_slice) hw
    have hsp : 0 < len → a'.spot = none := fun h0 => by
      obtain ⟨cs', hc, _⟩ := hi 0 (by omega)
      rw [hC] at hc
      obtain ⟨_, hcl, hat⟩ := World.cells?_some hc
      have h1 := hat 0 (by omega)
      rw [show (a'.add (0 * 4)).add 0 = a' from by simp [Addr.add]] at h1
      exact World.cell?_spot (h1.trans (List.getElem?_eq_getElem (by omega)))
    have key : ∀ i, ∃ v : A15, i < len → ∃ b o pa pl pc, some a' = some (⟨b, o, none⟩ : Addr) ∧ b < w.heap.size ∧ b < w.heap.size ∧ w.cell? ⟨b, o + i * 4, none⟩ = some (.int .i64 v.what) ∧ w.cell? ⟨b, o + i * 4 + 1, none⟩ = some (.int .i64 v.en) ∧ w.cell? ⟨b, o + i * 4 + 2, none⟩ = some (.slice pa pl pc) ∧ w.cell? ⟨b, o + i * 4 + 3, none⟩ = some (.int .i64 v.n) ∧ PArgU w w.heap.size pa pl pc v.ps 1048576 := by
      intro i
      by_cases hlt : i < len
      · obtain ⟨cs', hc, ht'⟩ := hi i (by omega)
        rw [hC] at hc
        obtain ⟨_, hcl, hat⟩ := World.cells?_some hc
        have hwi : Rows.uptoBulk (D i) ≤ 1048576 := Nat.le_trans (bulk_at (i := i) (by rw [List.getElem?_map, List.getElem?_range hlt]; rfl)) hwe
        obtain ⟨ys, n', _, hy, hlen, hyl, hf⟩ := DataW.trod_struct hu ht'
        have hD : D i = .agg (ys.map (·.1)) := congrArg Prod.fst hy
        rw [hD] at hwi
        have h0 := hf 0 _ rfl
        have h1 := hf 1 _ rfl
        have h2 := hf 2 _ rfl
        have h3 := hf 3 _ rfl
        obtain ⟨v0, v1, v2, v3, rfl⟩ := four_of hcl
        obtain ⟨y0, y1, y2, y3, rfl⟩ := four_of hyl
        have hci : Try.prog.cellsOf 3 = 1 := by kernel_rfl
        have hcp : Try.prog.cellsOf 53 = 1 := by kernel_rfl
        have e0 : DataW.trod enc Try.prog w base (fun _ => true) true n' 3 [v0] = some y0 := by simpa [hci] using h0
        have e1 : DataW.trod enc Try.prog w base (fun _ => true) true n' 3 [v1] = some y1 := by simpa [hci] using h1
        have e2 : DataW.trod enc Try.prog w base (fun _ => true) true n' 53 [v2] = some y2 := by simpa [hci, hcp] using h2
        have e3 : DataW.trod enc Try.prog w base (fun _ => true) true n' 3 [v3] = some y3 := by simpa [hci, hcp] using h3
        have hw2 : Rows.uptoBulk y2.1 ≤ 1048576 := by
          simp only [Rows.uptoBulk, List.map_cons, List.map_nil, Rows.uptoBulkAll] at hwi
          omega
        obtain ⟨z0, q0, rfl, k0⟩ := DataW.trod_int Try.underlying3 e0
        obtain ⟨z1, q1, rfl, k1⟩ := DataW.trod_int Try.underlying3 e1
        obtain ⟨z3, q3, rfl, k3⟩ := DataW.trod_int Try.underlying3 e3
        obtain ⟨pa, pl, pc, rfl⟩ : ∃ pa pl pc, v2 = .slice pa pl pc := by
          rcases open_slice Try.underlying53 e2 with ⟨hcs, _⟩ | ⟨a2, l2, c2, _, _, _, _, hcs, _⟩
          · simp at hcs; exact ⟨_, _, _, hcs⟩
          · simp at hcs; exact ⟨_, _, _, hcs⟩
        obtain ⟨ps, hps⟩ := parts_ofU e2
        simp only [List.cons.injEq, and_true] at q0 q1 q3
        subst q0 q1 q3
        have d0 := hat 0 (by omega)
        have d1 := hat 1 (by omega)
        have d2 := hat 2 (by omega)
        have d3 := hat 3 (by omega)
        rw [Go.Deep.add_add] at d0 d1 d2 d3
        obtain ⟨b, o, s⟩ := a'
        have hs : s = none := hsp (by omega)
        subst hs
        rw [addr_add] at d0 d1 d2 d3
        have hb := World.block_lt_of_cell? _ _ d0
        exact ⟨⟨z0, z1, ps, z3⟩, fun _ => ⟨b, o, pa, pl, pc, rfl, hb, hb, by simpa using d0, by simpa [Nat.add_assoc] using d1, by simpa [Nat.add_assoc] using d2, by simpa [Nat.add_assoc] using d3, ⟨hps.len_eq, hps.le, hps.cap_le, hps.at_, Nat.le_trans hps.tot hw2⟩⟩⟩
      · exact ⟨⟨0, 0, [], 0⟩, fun h => absurd h hlt⟩
    obtain ⟨V, hV⟩ : ∃ V : Nat → A15, ∀ i, i < len → ∃ b o pa pl pc, some a' = some (⟨b, o, none⟩ : Addr) ∧ b < w.heap.size ∧ b < w.heap.size ∧ w.cell? ⟨b, o + i * 4, none⟩ = some (.int .i64 (V i).what) ∧ w.cell? ⟨b, o + i * 4 + 1, none⟩ = some (.int .i64 (V i).en) ∧ w.cell? ⟨b, o + i * 4 + 2, none⟩ = some (.slice pa pl pc) ∧ w.cell? ⟨b, o + i * 4 + 3, none⟩ = some (.int .i64 (V i).n) ∧ PArgU w w.heap.size pa pl pc (V i).ps 1048576 := ⟨fun i => (key i).choose, fun i => (key i).choose_spec⟩
    refine ⟨(List.range len).map V, by simp, by omega, fun i hi' => ?_⟩
    have hlt : i < len := by simpa using hi'
    have e : ((List.range len).map V)[i] = V i := by simp
    rw [e]
    exact hV i hlt
end
end Go.Proofs.Ytdoamelhclnphaa
