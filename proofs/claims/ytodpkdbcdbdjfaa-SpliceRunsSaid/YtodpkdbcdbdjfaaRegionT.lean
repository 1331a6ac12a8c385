/-
  A region that draws its order, walked in one order: what only reads is taken first, the calls come up one by one. The order is checked once, by the kernel.
-/
import Derived.Test.YtodpkdbcdbdjfaaSteps
namespace Go.Proofs.Ytodpkdbcdbdjfaa
open Go.RowKit

section
variable {P : Program} {ops : Array Oper} {Q : Exit → Act → World → Prop}

/-- What an operation writes. -/
def dstAt (ops : Array Oper) (i : Nat) : Option Tmp := (ops[i]?).bind (·.dst)
def optEq (x : Option Tmp) (s : Tmp) : Bool := match x with | some d => Nat.beq d s | none => false
theorem optEq_iff {x : Option Tmp} {s : Tmp} : optEq x s = true ↔ x = some s := by
  cases x with
  | none => simp [optEq]
  | some d => simp [optEq, Nat.beq_eq]
def edgeB (ops : Array Oper) (j i : Nat) : Bool := match ops[j]? with
  | some o => o.after.toList.any fun e => Region.binds .any e && Nat.beq e.on i
  | none => false
/-- Whoever looks at what another one writes stands before it or behind it. -/
def looksOk (ops : Array Oper) : Bool := (List.range ops.size).all fun j => match ops[j]? with
  | none => true
  | some oj => (oj.looksAt ops).all fun s => (oj.after.toList.any fun e => Region.binds .any e && optEq (dstAt ops e.on) s) ||
      (List.range ops.size).all fun i => !optEq (dstAt ops i) s || (Nat.beq i j || (edgeB ops j i || edgeB ops i j))
/-- No two write the same. -/
def apartB : List Oper → Bool
  | [] => true
  | x :: xs => (match x.dst with | none => true | some d => xs.all fun y => !optEq y.dst d) && apartB xs
theorem apartB_ne : ∀ {l : List Oper}, apartB l = true → ∀ {i j : Nat} {a b : Oper} {d : Tmp}, i < j → l[i]? = some a → l[j]? = some b → a.dst = some d → b.dst ≠ some d
  | [], _, i, j, a, b, d, _, hi, _, _ => by simp at hi
  | x :: xs, h, i, j, a, b, d, hij, hi, hj, ha => by
    simp only [apartB, Bool.and_eq_true] at h
    obtain ⟨j, rfl⟩ : ∃ q, j = q + 1 := ⟨j - 1, by omega⟩
    rw [List.getElem?_cons_succ] at hj
    cases i with
    | zero =>
      simp at hi
      subst hi
      rw [ha] at h
      have h1 := List.all_eq_true.1 h.1 b (List.mem_of_getElem? hj)
      intro hb
      rw [hb] at h1
      simp [optEq, Nat.beq_eq] at h1
    | succ i =>
      rw [List.getElem?_cons_succ] at hi
      exact apartB_ne h.2 (by omega) hi hj ha
theorem apartB_eq {l : List Oper} (h : apartB l = true) {i j : Nat} {a b : Oper} {d : Tmp} (hi : l[i]? = some a) (hj : l[j]? = some b) (ha : a.dst = some d) (hb : b.dst = some d) : i = j := by
  rcases Nat.lt_trichotomy i j with h1 | h1 | h1
  · exact absurd hb (apartB_ne h h1 hi hj ha)
  · exact h1
  · exact absurd ha (apartB_ne h h1 hj hi hb)
theorem edgeB_iff {ops : Array Oper} {j i : Nat} {o : Oper} (h : ops[j]? = some o) : edgeB ops j i = true ↔ ∃ e ∈ o.after, Region.binds .any e = true ∧ e.on = i := by
  simp only [edgeB, h, List.any_eq_true, Array.mem_toList_iff, Bool.and_eq_true, Nat.beq_eq]
theorem dstAt_some {ops : Array Oper} {i : Nat} {d : Tmp} (h : dstAt ops i = some d) : ∃ o, ops[i]? = some o ∧ o.dst = some d := by
  unfold dstAt at h
  cases ho : ops[i]? with
  | none => rw [ho] at h; cases h
  | some o => rw [ho] at h; exact ⟨o, rfl, h⟩
theorem looks_at {ops : Array Oper} (hl : looksOk ops = true) (ha : apartB ops.toList = true) {i j : Nat} {oi oj : Oper} (hi : ops[i]? = some oi) (hj : ops[j]? = some oj) (hne : i ≠ j) {d : Tmp} (hd : oi.dst = some d) (hm : d ∈ oj.looksAt ops) :
    (∃ e ∈ oj.after, Region.binds .any e = true ∧ e.on = i) ∨ ∃ e ∈ oi.after, Region.binds .any e = true ∧ e.on = j := by
  have hjl : j < ops.size := (Array.getElem?_eq_some_iff.1 hj).1
  have hil : i < ops.size := (Array.getElem?_eq_some_iff.1 hi).1
  have h := List.all_eq_true.1 hl j (List.mem_range.2 hjl)
  simp only [hj] at h
  have h := List.all_eq_true.1 h d hm
  rw [Bool.or_eq_true] at h
  rcases h with h | h
  · obtain ⟨e, he, hb⟩ := List.any_eq_true.1 h
    rw [Bool.and_eq_true, optEq_iff] at hb
    obtain ⟨o, ho, hod⟩ := dstAt_some hb.2
    exact .inl ⟨e, Array.mem_toList_iff.1 he, hb.1, apartB_eq ha (by rw [Array.getElem?_toList]; exact ho) (by rw [Array.getElem?_toList]; exact hi) hod hd⟩
  · have h := List.all_eq_true.1 h i (List.mem_range.2 hil)
    have hx : optEq (dstAt ops i) d = true := optEq_iff.2 (by simp [dstAt, hi, hd])
    simp only [hx, Bool.not_true, Bool.false_or, Bool.or_eq_true, Nat.beq_eq] at h
    rcases h with h | h | h
    · exact absurd h hne
    · exact .inl ((edgeB_iff hj).1 h)
    · exact .inr ((edgeB_iff hi).1 h)
theorem free_static {ops : Array Oper} (hl : looksOk ops = true) (ha : apartB ops.toList = true) {i : Nat} {oi : Oper} (hi : ops[i]? = some oi) {listed : Array Bool} (hown : ∀ e ∈ oi.after, Region.binds .any e = true → listed.getD e.on false = true) :
    Region.free .any ops listed i = true := by
  simp only [Region.free, hi, List.all_eq_true, List.mem_range]
  intro j hj
  by_cases hji : j = i
  · simp [hji]
  · cases hlj : listed.getD j true
    · have hnl : listed.getD j false ≠ true := fun h => by
        simp only [Array.getD_eq_getD_getElem?] at h hlj
        cases hq : listed[j]? with
        | none => rw [hq] at h; simp at h
        | some q => rw [hq] at h hlj; simp at h hlj; rw [h] at hlj; cases hlj
      have hjo : ops[j]? = some ops[j] := Array.getElem?_eq_getElem hj
      simp only [hjo, Bool.or_eq_true, Array.any_eq_true']
      generalize ops[j] = oj at hjo
      by_cases hed : ∃ e ∈ oj.after, Region.binds .any e = true ∧ e.on = i
      · obtain ⟨e, he, h1, h2⟩ := hed
        exact .inr (.inl ⟨e, he, by simp [h1, h2]⟩)
      · refine .inr (.inr ?_)
        unfold Oper.apart
        have hno : ¬ ∃ e ∈ oi.after, Region.binds .any e = true ∧ e.on = j := fun ⟨e, he, h1, h2⟩ => hnl (h2 ▸ hown e he h1)
        rw [Bool.and_eq_true]
        refine ⟨?_, ?_⟩
        · cases hd : oi.dst with
          | none => rfl
          | some d =>
            simp only [Bool.and_eq_true, Bool.not_eq_true', List.contains_eq_mem, decide_eq_false_iff_not, bne_iff_ne, ne_eq]
            refine ⟨fun hm => ?_, fun h => hji (apartB_eq ha (by rw [Array.getElem?_toList]; exact hjo) (by rw [Array.getElem?_toList]; exact hi) h hd)⟩
            rcases looks_at hl ha hi hjo (fun e => hji e.symm) hd hm with h | h
            · exact hed h
            · exact hno h
        · cases hd : oj.dst with
          | none => rfl
          | some d =>
            simp only [Bool.not_eq_true', List.contains_eq_mem, decide_eq_false_iff_not]
            intro hm
            rcases looks_at hl ha hjo hi hji hd hm with h | h
            · exact hno h
            · exact hed h
    · simp
/-- All that binds an operation has come up. -/
def ownOk (ops : Array Oper) (listed : Array Bool) (i : Nat) : Bool := match ops[i]? with
  | some o => !listed.getD i true && o.after.toList.all fun e => !Region.binds .any e || listed.getD e.on false
  | none => false
theorem ownOk_spec {ops : Array Oper} {listed : Array Bool} {i : Nat} {o : Oper} (hi : ops[i]? = some o) (h : ownOk ops listed i = true) : (Region.ready .any ops listed).contains i = true ∧ ∀ e ∈ o.after, Region.binds .any e = true → listed.getD e.on false = true := by
  simp only [ownOk, hi, Bool.and_eq_true, List.all_eq_true, Array.mem_toList_iff, Bool.or_eq_true, Bool.not_eq_true'] at h
  refine ⟨?_, fun e he hb => (h.2 e he).resolve_left (by rw [hb]; simp)⟩
  rw [List.contains_eq_mem, decide_eq_true_iff]
  simp only [Region.ready, List.mem_filter, List.mem_range, hi, Option.map_some, Option.getD_some, Bool.and_eq_true, Bool.not_eq_true', Array.all_eq_true', Bool.or_eq_true]
  exact ⟨(Array.getElem?_eq_some_iff.1 hi).1, h.1, fun e he => h.2 e he⟩

/-- Each entry: an operation's number, and whether it is taken (true) or comes up alone (false). -/
def chkOrder (ops : Array Oper) : List (Nat × Bool) → Array Bool → Bool
  | [], listed => (Region.ready .any ops listed).isEmpty
  | (i, true) :: r, listed => ownOk ops listed i && chkOrder ops r (listed.setIfInBounds i true)
  | (i, false) :: r, listed => (Region.ready .any ops listed == [i]) && chkOrder ops r (listed.setIfInBounds i true)
def okOrder (ops : Array Oper) (order : List (Nat × Bool)) : Bool :=
  (Region.noSelect ops && (looksOk ops && apartB ops.toList)) && (decide (order.length ≤ ops.size) && chkOrder ops order (Array.replicate ops.size false))

/-- The walk in that order; the condition that is held may be made stronger at each call. -/
def walkO (P : Program) (ops : Array Oper) (Q : Exit → Act → World → Prop) : List (Nat × Bool) → (World → Prop) → Act → World → Prop
  | [], _, a, w => Q .normal a w
  | (i, true) :: r, S, a, w => ∃ o v, ops[i]? = some o ∧ YieldsIf P ops S o v a ∧ walkO P ops Q r S (a.put o.dst v) w
  | (i, false) :: r, S, a, w => ∃ o, ops[i]? = some o ∧ ∀ K : Act → World → Prop, Hid (∀ (S' : World → Prop) a' w', (∀ x, S' x → S x) → S' w' → walkO P ops Q r S' a' w' → K a' w') →
      if Region.wanted o (yielded ops a.tmps) = true then Oper.wp P o a w K Q else K (a.put o.dst undef) w

theorem walkO_any (hQ : ∀ c a d v w, Q (.panic c) (Act.put a d v) w → Q (.panic c) a w) (hs : Region.noSelect ops = true ∧ looksOk ops = true ∧ apartB ops.toList = true) :
    ∀ (order : List (Nat × Bool)) (S : World → Prop) (fuel : Nat) (listed : Array Bool) (a : Act) (w : World), chkOrder ops order listed = true → order.length ≤ fuel → S w → walkO P ops Q order S a w → wpAnyH P .any ops Q S fuel listed a w
  | [], S, fuel, listed, a, w, hc, _, _, h => wpAnyH_done (by simpa [chkOrder] using hc) h fuel
  | (i, true) :: r, S, fuel, listed, a, w, hc, hl, hS, h => by
    obtain ⟨o, v, ho, hy, h⟩ := h
    simp only [chkOrder, Bool.and_eq_true] at hc
    obtain ⟨fuel, rfl⟩ : ∃ f, fuel = f + 1 := ⟨fuel - 1, by simp at hl; omega⟩
    have hw := ownOk_spec ho hc.1
    exact wpAnyH_take ho hs.1 (free_static hs.2.1 hs.2.2 ho hw.2) hw.1 (fun c a w => hQ c a o.dst v w) hy hS (walkO_any hQ hs r S fuel _ _ _ hc.2 (by simpa using hl) hS h)
  | (i, false) :: r, S, fuel, listed, a, w, hc, hl, hS, h => by
    obtain ⟨o, ho, h⟩ := h
    simp only [chkOrder, Bool.and_eq_true, beq_iff_eq] at hc
    obtain ⟨fuel, rfl⟩ : ∃ f, fuel = f + 1 := ⟨fuel - 1, by simp at hl; omega⟩
    refine wpAnyH_ready hc.1 (by simp) (AllReadyH.cons ho (fun K hK => ?_) AllReadyH.nil)
    exact h K (Lib.hid fun S' a' w' hSS hS' hw => hK.out a' w' (hSS _ hS') fun _ => wpAnyH_strengthen hSS _ _ _ _ (walkO_any hQ hs r S' fuel _ _ _ hc.2 (by simpa using hl) hS' hw))

theorem walkO_take {i : Nat} {r : List (Nat × Bool)} {S : World → Prop} {a : Act} {w : World} {o : Oper} {v : Value} (ho : ops[i]? = some o) (hy : YieldsIf P ops S o v a) (h : walkO P ops Q r S (a.put o.dst v) w) : walkO P ops Q ((i, true) :: r) S a w := ⟨o, v, ho, hy, h⟩
theorem walkO_call {i : Nat} {r : List (Nat × Bool)} {S : World → Prop} {a : Act} {w : World} {o : Oper} (ho : ops[i]? = some o) (h : ∀ K : Act → World → Prop, Hid (∀ (S' : World → Prop) a' w', (∀ x, S' x → S x) → S' w' → walkO P ops Q r S' a' w' → K a' w') →
      if Region.wanted o (yielded ops a.tmps) = true then Oper.wp P o a w K Q else K (a.put o.dst undef) w) : walkO P ops Q ((i, false) :: r) S a w := ⟨o, ho, h⟩
theorem walkO_done {S : World → Prop} {a : Act} {w : World} (h : Q .normal a w) : walkO P ops (NoPanic Q) [] S a w := NoPanic.normal h
/-- A region that draws, in an order that the kernel has checked. -/
theorem wp_region_order {id : Nat} {a : Act} {w : World} (order : List (Nat × Bool)) (S : World → Prop) (hm : P.follows .mixedOrders = true) (hc : okOrder ops order = true) (hS : S w.drew)
    (h : ∀ OPS, Hid (OPS = ops) → walkO P OPS (NoPanic Q) order S a w.drew) : (Code.region id ops true).wp P Q a w := by
  unfold okOrder at hc
  simp only [Bool.and_eq_true, decide_eq_true_iff] at hc
  refine wp_region_noPanic (wp_region_held_drew hm hS fun _ => ?_)
  exact walkO_any (fun _ _ _ _ _ h => h) hc.1 order S ops.size _ _ _ hc.2.2 hc.2.1 hS (h _ (Lib.hid rfl))
end
end Go.Proofs.Ytodpkdbcdbdjfaa
