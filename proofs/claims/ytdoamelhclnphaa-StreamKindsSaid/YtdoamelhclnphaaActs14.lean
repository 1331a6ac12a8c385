/-
  Parts and calls as arguments: a slice of slices of bytes, a slice of calls that hold such; no slice is longer than the reach.
-/
import Derived.Test.YtdoamelhclnphaaStB
import Derived.Test.YtdoamelhclnphaaOpenF
import Derived.SizedLaws
namespace Go.Proofs.Ytdoamelhclnphaa
open Go.ChangeShapes Go.WideShapes Go.Deep Go.RowKit
set_option maxRecDepth 100000

section
variable {H : Type} {P : Program}
theorem weights_all {e : TypeId} {R : Nat} : ∀ {ds : List (DataW H)} {i : Nat} {d : DataW H}, (∀ n ∈ DataW.weightsAll P e ds, n ≤ R) → ds[i]? = some d → ∀ n ∈ d.weights P e, n ≤ R
  | [], i, d, _, hi, _, _ => by simp at hi
  | d0 :: ds, 0, d, h, hi, n, hn => by
    simp at hi
    subst hi
    exact h n (by simp only [DataW.weightsAll, List.mem_append]; exact .inl hn)
  | d0 :: ds, i + 1, d, h, hi, n, hn => by
    rw [List.getElem?_cons_succ] at hi
    exact weights_all (fun q hq => h q (by simp only [DataW.weightsAll, List.mem_append]; exact .inr hq)) hi n hn
theorem weights_slice {t e : TypeId} {R : Nat} {el sp : List (DataW H)} (ht : P.underlying t = some (.slice e)) (h : ∀ n ∈ (DataW.slice el sp).weights P t, n ≤ R) :
    (el.length + sp.length) * P.bytesOf e ≤ R ∧ (∀ n ∈ DataW.weightsAll P e el, n ≤ R) ∧ ∀ n ∈ DataW.weightsAll P e sp, n ≤ R := by
  simp only [DataW.weights, ht, List.mem_cons, List.mem_append] at h
  exact ⟨h _ (.inl rfl), fun n hn => h n (.inr (.inl hn)), fun n hn => h n (.inr (.inr hn))⟩
end
section
variable {H : Type} {enc : TypeId × Value → H} {w : World} {base : Nat}
/-- A slice of bytes, with its length. -/
theorem bytes_ofW {fuel : Nat} {a : Option Addr} {len cap : Nat} {x : DataW H × List MemPlace}
    (h : DataW.trod enc Try.prog w base (fun _ => true) true fuel 29 [.slice a len cap] = some x) (hw : ∀ n ∈ DataW.weights Try.prog 29 x.1, n ≤ reachBytes) : ∃ l, Arg w w.heap.size a len cap l ∧ len ≤ reachBytes := by
  obtain ⟨l, hl⟩ := bytes_of h
  refine ⟨l, hl, ?_⟩
  have hb : Try.prog.bytesOf 5 = 1 := by kernel_rfl
  rcases open_slice Try.underlying29 h with ⟨hcs, _⟩ | ⟨a', len', cap', m, n, D, Pl, hcs, _, _, _, _, hx, _⟩
  · simp at hcs
    omega
  · simp only [List.cons.injEq, Value.slice.injEq, and_true] at hcs
    obtain ⟨rfl, rfl, rfl⟩ := hcs
    rw [hx] at hw
    have := (weights_slice Try.underlying29 hw).1
    rw [hb] at this
    simp at this
    omega
/-- A slice of slices of bytes. -/
structure PArg (w : World) (M : Nat) (a : Option Addr) (len cap : Nat) (P : Parts) : Prop where
  len_eq : len = P.length
  le : len ≤ cap
  cap_le : cap ≤ maxLen
  at_ : PartsAt w (fun b => b < M) a P
  size : ∀ p ∈ P, p.length ≤ reachBytes
theorem PArg.keep {w w' : World} {M : Nat} {a : Option Addr} {len cap : Nat} {P : Parts} (h : PArg w M a len cap P) {S : List Nat} (hf : Fr S w w') (hS : ∀ x ∈ S, M ≤ x) : PArg w' M a len cap P :=
  ⟨h.len_eq, h.le, h.cap_le, h.at_.keep hf (fun x hx hn => by have := hS x hx; omega), h.size⟩
theorem one_of {cs : List Value} (h : cs.length = 1) : ∃ v, cs = [v] := by
  match cs, h with
  | [v], _ => exact ⟨v, rfl⟩
theorem three_of {α : Type} {cs : List α} (h : cs.length = 3) : ∃ a b c, cs = [a, b, c] := by
  match cs, h with
  | [a, b, c], _ => exact ⟨a, b, c, rfl⟩
theorem parts_of {fuel : Nat} {a : Option Addr} {len cap : Nat} {x : DataW H × List MemPlace}
    (h : DataW.trod enc Try.prog w base (fun _ => true) true fuel 53 [.slice a len cap] = some x) (hw : ∀ n ∈ DataW.weights Try.prog 53 x.1, n ≤ reachBytes) : ∃ P, PArg w w.heap.size a len cap P := by
  have hc1 : Try.prog.cellsOf 29 = 1 := by kernel_rfl
  rcases open_slice Try.underlying53 h with ⟨hcs, _⟩ | ⟨a', len', cap', m, n, D, Pl, hcs, _, hl, hm, hmm, hx, hi⟩
  · simp at hcs
    obtain ⟨rfl, rfl, rfl⟩ := hcs
    exact ⟨[], rfl, Nat.le_refl _, by unfold maxLen; omega, PartsAt.nil _ _ _, by simp⟩
  · simp only [List.cons.injEq, Value.slice.injEq, and_true] at hcs
    obtain ⟨rfl, rfl, rfl⟩ := hcs
    simp only [if_true] at hmm
    subst hmm
    rw [hx] at hw
    obtain ⟨_, hwe, hws⟩ := weights_slice Try.underlying53 hw
    have key : ∀ i, ∃ (v : Value) (l : List UInt8), i < len → w.cell? (a'.add i) = some v ∧ PartV w (fun b => b < w.heap.size) v l ∧ l.length ≤ reachBytes := by
      intro i
      by_cases hlt : i < len
      · obtain ⟨cs', hc, ht'⟩ := hi i (by omega)
        rw [hc1, Nat.mul_one] at hc
        obtain ⟨_, hcl, hat⟩ := World.cells?_some hc
        obtain ⟨v, rfl⟩ := one_of hcl
        have hcell := hat 0 (by omega)
        have hwi := weights_all (i := i) hwe (by rw [List.getElem?_map, List.getElem?_range hlt]; rfl)
        obtain ⟨pa, pl, pc, rfl⟩ : ∃ pa pl pc, v = .slice pa pl pc := by
          rcases open_slice Try.underlying29 ht' with ⟨hcs, _⟩ | ⟨a2, l2, c2, _, _, _, _, hcs, _⟩
          · simp at hcs; exact ⟨_, _, _, hcs⟩
          · simp at hcs; exact ⟨_, _, _, hcs⟩
        obtain ⟨l, hl', hsz⟩ := bytes_ofW ht' hwi
        refine ⟨.slice pa pl pc, l, fun _ => ⟨?_, ?_, by have := hl'.len_eq; omega⟩⟩
        · rw [Go.Deep.add_add] at hcell
          simpa using hcell
        · have e := hl'.len_eq
          subst e
          exact ⟨pa, pc, rfl, hl'.le, hl'.cap_le, hl'.sl, fun b o h0 e => hl'.old b o h0 e⟩
      · exact ⟨.bool false, [], fun h => absurd h hlt⟩
    obtain ⟨V, Lf, hV⟩ : ∃ (V : Nat → Value) (Lf : Nat → List UInt8), ∀ i, i < len → w.cell? (a'.add i) = some (V i) ∧ PartV w (fun b => b < w.heap.size) (V i) (Lf i) ∧ (Lf i).length ≤ reachBytes :=
      ⟨fun i => (key i).choose, fun i => (key i).choose_spec.choose, fun i => (key i).choose_spec.choose_spec⟩
    have hbk : 0 < len → ∃ b o, a' = ⟨b, o, none⟩ ∧ b < w.heap.size := fun h0 => by
      obtain ⟨b, o, s⟩ := a'
      have h1 := (hV 0 h0).1
      have hs : s = none := by simpa [Addr.add] using World.cell?_spot h1
      have := World.block_lt_of_cell? _ _ h1
      exact ⟨b, o, by rw [hs], by simpa [Addr.add, hs] using this⟩
    refine ⟨(List.range len).map Lf, by simp, hl, hm, ⟨(List.range len).map V, by simp, ?_, ?_, ?_⟩, ?_⟩
    · intro h0
      obtain ⟨b, o, rfl, hb⟩ := hbk (by simpa using h0)
      refine ⟨b, o, rfl, hb, fun i hi => ?_⟩
      have hi' : i < len := by simpa using hi
      have h1 := (hV i hi').1
      rw [addr_add] at h1
      rw [h1, List.getElem?_map, List.getElem?_range hi']
      rfl
    · intro b o h0 e
      obtain ⟨b', o', e', hb⟩ := hbk (by simpa using h0)
      rw [e'] at e
      injection e with e
      injection e with e1
      omega
    · intro i p hp
      have hi' : i < len := by
        have := (List.getElem?_eq_some_iff.1 hp).1
        simpa using this
      rw [List.getElem?_map, List.getElem?_range hi'] at hp
      simp at hp
      subst hp
      exact ⟨V i, by rw [List.getElem?_map, List.getElem?_range hi']; rfl, (hV i hi').2.1⟩
    · intro p hp
      obtain ⟨i, hi', rfl⟩ := List.mem_map.1 hp
      exact (hV i (List.mem_range.1 hi')).2.2
end

structure A14 where
  what : Int
  ps : Parts
  n : Int
/-- A slice of calls. -/
structure Acts14 (w : World) (M : Nat) (a : Option Addr) (len cap : Nat) (A : List A14) : Prop where
  len_eq : len = A.length
  cap_le : len ≤ maxLen
  at_ : ∀ i (hi : i < A.length), ∃ b o pa pl pc, a = some (⟨b, o, none⟩ : Addr) ∧ b < M ∧ b < w.heap.size ∧ w.cell? ⟨b, o + i * 3, none⟩ = some (.int .i64 A[i].what) ∧ w.cell? ⟨b, o + i * 3 + 1, none⟩ = some (.slice pa pl pc) ∧ w.cell? ⟨b, o + i * 3 + 2, none⟩ = some (.int .i64 A[i].n) ∧ PArg w M pa pl pc A[i].ps ∧
    (-9223372036854775808 ≤ A[i].what ∧ A[i].what ≤ 9223372036854775807) ∧ (-9223372036854775808 ≤ A[i].n ∧ A[i].n ≤ 9223372036854775807)
theorem Acts14.keep {w w' : World} {M : Nat} {a : Option Addr} {len cap : Nat} {A : List A14} (h : Acts14 w M a len cap A) {S : List Nat} (hf : Fr S w w') (hM : M ≤ w.heap.size) (hS : ∀ x ∈ S, M ≤ x) : Acts14 w' M a len cap A :=
  ⟨h.len_eq, h.cap_le, fun i hi => by
    obtain ⟨b, o, pa, pl, pc, e, h1, h2, c0, c1, c2, hs, x⟩ := h.at_ i hi
    have hn : b ∉ S := fun hm => by have := hS b hm; omega
    have hk : ∀ k, w'.cell? ⟨b, k, none⟩ = w.cell? ⟨b, k, none⟩ := fun k => World.cell?_of_block (w := w) (hf.block b h2 hn)
    exact ⟨b, o, pa, pl, pc, e, h1, Nat.lt_of_lt_of_le h2 hf.size, (hk _).trans c0, (hk _).trans c1, (hk _).trans c2, hs.keep hf hS, x⟩⟩
section
variable {H : Type} {enc : TypeId × Value → H} {w : World} {base : Nat}
theorem weights_each {P : Program} {R : Nat} {ts : List TypeId} {ds : List (DataW H)} {j : Nat} {t : TypeId} {d : DataW H} (h : ∀ n ∈ DataW.weightsEach P ts ds, n ≤ R) (ht : ts[j]? = some t) (hd : ds[j]? = some d) : ∀ n ∈ d.weights P t, n ≤ R :=
  fun n hn => h n (DataW.weights_mem_each ht hd n hn)
theorem acts14_of {fuel : Nat} {a : Option Addr} {len cap : Nat} {x : DataW H × List MemPlace}
    (h : DataW.trod enc Try.prog w base (fun _ => true) true fuel 49 [.slice a len cap] = some x) (hw : ∀ n ∈ DataW.weights Try.prog 49 x.1, n ≤ reachBytes) : ∃ A, Acts14 w w.heap.size a len cap A := by
  have hC : Try.prog.cellsOf 55 = 3 := by kernel_rfl
  have hu := Try.underlying55
  rcases open_slice Try.underlying49 h with ⟨hcs, _⟩ | ⟨a', len', cap', m, n, D, Pl, hcs, _, hl, hm, hmm, hx, hi⟩
  · simp at hcs
    obtain ⟨rfl, rfl, rfl⟩ := hcs
    exact ⟨[], rfl, by unfold maxLen; omega, fun i hi => absurd hi (Nat.not_lt_zero i)⟩
  · simp only [List.cons.injEq, Value.slice.injEq, and_true] at hcs
    obtain ⟨rfl, rfl, rfl⟩ := hcs
    simp only [if_true] at hmm
    subst hmm
    rw [hx] at hw
    obtain ⟨_, hwe, _⟩ := weights_slice Try.underlying49 hw
    have hsp : 0 < len → a'.spot = none := fun h0 => by
      obtain ⟨cs', hc, _⟩ := hi 0 (by omega)
      rw [hC] at hc
      obtain ⟨_, hcl, hat⟩ := World.cells?_some hc
      have h1 := hat 0 (by omega)
      rw [show (a'.add (0 * 3)).add 0 = a' from by simp [Addr.add]] at h1
      exact World.cell?_spot (h1.trans (List.getElem?_eq_getElem (by omega)))
    have key : ∀ i, ∃ v : A14, i < len → ∃ b o pa pl pc, some a' = some (⟨b, o, none⟩ : Addr) ∧ b < w.heap.size ∧ b < w.heap.size ∧ w.cell? ⟨b, o + i * 3, none⟩ = some (.int .i64 v.what) ∧ w.cell? ⟨b, o + i * 3 + 1, none⟩ = some (.slice pa pl pc) ∧ w.cell? ⟨b, o + i * 3 + 2, none⟩ = some (.int .i64 v.n) ∧ PArg w w.heap.size pa pl pc v.ps ∧
        (-9223372036854775808 ≤ v.what ∧ v.what ≤ 9223372036854775807) ∧ (-9223372036854775808 ≤ v.n ∧ v.n ≤ 9223372036854775807) := by
      intro i
      by_cases hlt : i < len
      · obtain ⟨cs', hc, ht'⟩ := hi i (by omega)
        rw [hC] at hc
        obtain ⟨_, hcl, hat⟩ := World.cells?_some hc
        have hwi := weights_all (i := i) hwe (by rw [List.getElem?_map, List.getElem?_range hlt]; rfl)
        obtain ⟨ys, n', _, hy, hlen, hyl, hf⟩ := DataW.trod_struct hu ht'
        have hD : D i = .agg (ys.map (·.1)) := congrArg Prod.fst hy
        rw [hD] at hwi
        simp only [DataW.weights, hu] at hwi
        have h0 := hf 0 _ rfl
        have h1 := hf 1 _ rfl
        have h2 := hf 2 _ rfl
        obtain ⟨v0, v1, v2, rfl⟩ := three_of hcl
        obtain ⟨y0, y1, y2, rfl⟩ := three_of hyl
        have hci : Try.prog.cellsOf 3 = 1 := by kernel_rfl
        have hcp : Try.prog.cellsOf 53 = 1 := by kernel_rfl
        · · have e0 : DataW.trod enc Try.prog w base (fun _ => true) true n' 3 [v0] = some y0 := by simpa [hci] using h0
            have e1 : DataW.trod enc Try.prog w base (fun _ => true) true n' 53 [v1] = some y1 := by simpa [hcp] using h1
            have e2 : DataW.trod enc Try.prog w base (fun _ => true) true n' 3 [v2] = some y2 := by simpa [hci] using h2
            have hw1 : ∀ q ∈ DataW.weights Try.prog 53 y1.1, q ≤ reachBytes := weights_each (j := 1) hwi rfl rfl
            obtain ⟨z0, q0, rfl, k0⟩ := DataW.trod_int Try.underlying3 e0
            obtain ⟨z2, q2, rfl, k2⟩ := DataW.trod_int Try.underlying3 e2
            obtain ⟨pa, pl, pc, rfl⟩ : ∃ pa pl pc, v1 = .slice pa pl pc := by
              rcases open_slice Try.underlying53 e1 with ⟨hcs, _⟩ | ⟨a2, l2, c2, _, _, _, _, hcs, _⟩
              · simp at hcs; exact ⟨_, _, _, hcs⟩
              · simp at hcs; exact ⟨_, _, _, hcs⟩
            obtain ⟨ps, hps⟩ := parts_of e1 hw1
            simp only [List.cons.injEq, and_true] at q0 q2
            subst q0 q2
            have d0 := hat 0 (by omega)
            have d1 := hat 1 (by omega)
            have d2 := hat 2 (by omega)
            rw [Go.Deep.add_add] at d0 d1 d2
            obtain ⟨b, o, s⟩ := a'
            have hs : s = none := hsp (by omega)
            subst hs
            rw [addr_add] at d0 d1 d2
            have hb := World.block_lt_of_cell? _ _ d0
            refine ⟨⟨z0, ps, z2⟩, fun _ => ⟨b, o, pa, pl, pc, rfl, hb, hb, by simpa using d0, by simpa [Nat.add_assoc] using d1, by simpa [Nat.add_assoc] using d2, hps, wf_i64 k0, wf_i64 k2⟩⟩
      · exact ⟨⟨0, [], 0⟩, fun h => absurd h hlt⟩
    obtain ⟨V, hV⟩ : ∃ V : Nat → A14, ∀ i, i < len → ∃ b o pa pl pc, some a' = some (⟨b, o, none⟩ : Addr) ∧ b < w.heap.size ∧ b < w.heap.size ∧ w.cell? ⟨b, o + i * 3, none⟩ = some (.int .i64 (V i).what) ∧ w.cell? ⟨b, o + i * 3 + 1, none⟩ = some (.slice pa pl pc) ∧ w.cell? ⟨b, o + i * 3 + 2, none⟩ = some (.int .i64 (V i).n) ∧ PArg w w.heap.size pa pl pc (V i).ps ∧
        (-9223372036854775808 ≤ (V i).what ∧ (V i).what ≤ 9223372036854775807) ∧ (-9223372036854775808 ≤ (V i).n ∧ (V i).n ≤ 9223372036854775807) := ⟨fun i => (key i).choose, fun i => (key i).choose_spec⟩
    refine ⟨(List.range len).map V, by simp, by omega, fun i hi' => ?_⟩
    have hlt : i < len := by simpa using hi'
    have e : ((List.range len).map V)[i] = V i := by simp
    rw [e]
    exact hV i hlt
end
end Go.Proofs.Ytdoamelhclnphaa
