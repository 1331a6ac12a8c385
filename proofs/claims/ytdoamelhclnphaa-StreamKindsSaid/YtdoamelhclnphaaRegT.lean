/-
  A region that draws its order, walked in one order: what only reads is taken first, the calls come up one by one. The order is checked once, by the kernel.
-/
import Derived.Test.YtdoamelhclnphaaSteps
namespace Go.Proofs.Ytdoamelhclnphaa
open Go.RowKit

section
variable {P : Program} {ops : Array Oper} {Q : Exit → Act → World → Prop}

/-- What an operation writes. -/
def dstAt (ops : Array Oper) (i : Nat) : Option Tmp := (ops[i]?).bind (·.dst)
def optEq (x : Option Tmp) (s : Tmp) : Bool := match x with | some d => Nat.beq d s | none => false
theorem optEq_iff {x : Option Tmp} {s : Tmp} : optEq x s = true ↔ x = some s := by
  cases x with
  | none => simp [optEq]
  | some d => simp [optEq, Nat.beq_eq]
def edgeB (ops : Array Oper) (j i : Nat) : Bool := match ops[j]? with
  | some o => o.after.toList.any fun e => Region.binds .any e && Nat.beq e.on i
  | none => false
/-- Whoever looks at what another one writes stands before it or behind it. -/
def looksOk (ops : Array Oper) : Bool := (List.range ops.size).all fun j => match ops[j]? with
  | none => true
  | some oj => (oj.looksAt ops).all fun s => (oj.after.toList.any fun e => Region.binds .any e && optEq (dstAt ops e.on) s) ||
      (List.range ops.size).all fun i => !optEq (dstAt ops i) s || (Nat.beq i j || (edgeB ops j i || edgeB ops i j))
/-- No two write the same. -/
def apartB : List Oper → Bool
  | [] => true
  | x :: xs => (match x.dst with | none => true | some d => xs.all fun y => !optEq y.dst d) && apartB xs
theorem apartB_ne : ∀ {l : List Oper}, apartB l = true → ∀ {i j : Nat} {a b : Oper} {d : Tmp}, i < j → l[i]? = some a → l[j]? = some b → a.dst = some d → b.dst ≠ some d
  | [], _, i, j, a, b, d, _, hi, _, _ => by simp at hi
  | x :: xs, h, i, j, a, b, d, hij, hi, hj, ha => by
    simp only [apartB, Bool.and_eq_true] at h
    obtain ⟨j, rfl⟩ : ∃ q, j = q + 1 := ⟨j - 1, by omega⟩
    rw [List.getElem?_cons_succ] at hj
    cases i with
    | zero =>
      simp at hi
      subst hi
      rw [ha] at h
      have h1 := List.all_eq_true.1 h.1 b (List.mem_of_getElem? hj)
      intro hb
      rw [hb] at h1
      simp [optEq, Nat.beq_eq] at h1
    | succ i =>
      rw [List.getElem?_cons_succ] at hi
      exact apartB_ne h.2 (by omega) hi hj ha
theorem apartB_eq {l : List Oper} (h : apartB l = true) {i j : Nat} {a b : Oper} {d : Tmp} (hi : l[i]? = some a) (hj : l[j]? = some b) (ha : a.dst = some d) (hb : b.dst = some d) : i = j := by
  rcases Nat.lt_trichotomy i j with h1 | h1 | h1
  · exact absurd hb (apartB_ne h h1 hi hj ha)
  · exact h1
  · exact absurd ha (apartB_ne h h1 hj hi hb)
theorem edgeB_iff {ops : Array Oper} {j i : Nat} {o : Oper} (h : ops[j]? = some o) : edgeB ops j i = true ↔ ∃ e ∈ o.after, Region.binds .any e = true ∧ e.on = i := by
  simp only [edgeB, h, List.any_eq_true, Array.mem_toList_iff, Bool.and_eq_true, Nat.beq_eq]
theorem dstAt_some {ops : Array Oper} {i : Nat} {d : Tmp} (h : dstAt ops i = some d) : ∃ o, ops[i]? = some o ∧ o.dst = some d := by
  unfold dstAt at h
  cases ho : ops[i]? with
  | none => rw [ho] at h; cases h
  | some o => rw [ho] at h; exact ⟨o, rfl, h⟩
theorem looks_at {ops : Array Oper} (hl : looksOk ops = true) (ha : apartB ops.toList = true) {i j : Nat} {oi oj : Oper} (hi : ops[i]? = some oi) (hj : ops[j]? = some oj) (hne : i ≠ j) {d : Tmp} (hd : oi.dst = some d) (hm : d ∈ oj.looksAt ops) :
    (∃ e ∈ oj.after, Region.binds .any e = true ∧ e.on = i) ∨ ∃ e ∈ oi.after, Region.binds .any e = true ∧ e.on = j := by
  have hjl : j < ops.size := (Array.getElem?_eq_some_iff.1 hj).1
  have hil : i < ops.size := (Array.getElem?_eq_some_iff.1 hi).1
  have h := List.all_eq_true.1 hl j (List.mem_range.2 hjl)
  simp only [hj] at h
  have h := List.all_eq_true.1 h d hm
  rw [Bool.or_eq_true] at h
  rcases h with h | h
  · obtain ⟨e, he, hb⟩ := List.any_eq_true.1 h
    rw [Bool.and_eq_true, optEq_iff] at hb
    obtain ⟨o, ho, hod⟩ := dstAt_some hb.2
    exact .inl ⟨e, Array.mem_toList_iff.1 he, hb.1, apartB_eq ha (by rw [Array.getElem?_toList]; exact ho) (by rw [Array.getElem?_toList]; exact hi) hod hd⟩
  · have h := List.all_eq_true.1 h i (List.mem_range.2 hil)
    have hx : optEq (dstAt ops i) d = true := optEq_iff.2 (by simp [dstAt, hi, hd])
    simp only [hx, Bool.not_true, Bool.false_or, Bool.or_eq_true, Nat.beq_eq] at h
    rcases h with h | h | h
    · exact absurd h hne
    · exact .inl ((edgeB_iff hj).1 h)
    · exact .inr ((edgeB_iff hi).1 h)
theorem free_static {ops : Array Oper} (hl : looksOk ops = true) (ha : apartB ops.toList = true) {i : Nat} {oi : Oper} (hi : ops[i]? = some oi) {listed : Array Bool} (hown : ∀ e ∈ oi.after, Region.binds .any e = true → listed.getD e.on false = true) :
    Region.free .any ops listed i = true := by
  simp only [Region.free, hi, List.all_eq_true, List.mem_range]
  intro j hj
  by_cases hji : j = i
  · simp [hji]
  · cases hlj : listed.getD j true
    · have hnl : listed.getD j false ≠ true := fun h => by
        simp only [Array.getD_eq_getD_getElem?] at h hlj
        cases hq : listed[j]? with
        | none => rw [hq] at h; simp at h
        | some q => rw [hq] at h hlj; simp at h hlj; rw [h] at hlj; cases hlj
      have hjo : ops[j]? = some ops[j] := Array.getElem?_eq_getElem hj
      simp only [hjo, Bool.or_eq_true, Array.any_eq_true']
      generalize ops[j] = oj at hjo
      by_cases hed : ∃ e ∈ oj.after, Region.binds .any e = true ∧ e.on = i
      · obtain ⟨e, he, h1, h2⟩ := hed
        exact .inr (.inl ⟨e, he, by simp [h1, h2]⟩)
      · refine .inr (.inr ?_)
        unfold Oper.apart
        have hno : ¬ ∃ e ∈ oi.after, Region.binds .any e = true ∧ e.on = j := fun ⟨e, he, h1, h2⟩ => hnl (h2 ▸ hown e he h1)
        rw [Bool.and_eq_true]
        refine ⟨?_, ?_⟩
        · cases hd : oi.dst with
          | none => rfl
          | some d =>
            simp only [Bool.and_eq_true, Bool.not_eq_true', List.contains_eq_mem, decide_eq_false_iff_not, bne_iff_ne, ne_eq]
            refine ⟨fun hm => ?_, fun h => hji (apartB_eq ha (by rw [Array.getElem?_toList]; exact hjo) (by rw [Array.getElem?_toList]; exact hi) h hd)⟩
            rcases looks_at hl ha hi hjo (fun e => hji e.symm) hd hm with h | h
            · exact hed h
            · exact hno h
        · cases hd : oj.dst with
          | none => rfl
          | some d =>
            simp only [Bool.not_eq_true', List.contains_eq_mem, decide_eq_false_iff_not]
            intro hm
            rcases looks_at hl ha hjo hi hji hd hm with h | h
            · exact hno h
            · exact hed h
    · simp
/-- All that binds an operation has come up. -/
def ownOk (ops : Array Oper) (listed : Array Bool) (i : Nat) : Bool := match ops[i]? with
  | some o => !listed.getD i true && o.after.toList.all fun e => !Region.binds .any e || listed.getD e.on false
  | none => false
theorem ownOk_spec {ops : Array Oper} {listed : Array Bool} {i : Nat} {o : Oper} (hi : ops[i]? = some o) (h : ownOk ops listed i = true) : (Region.ready .any ops listed).contains i = true ∧ ∀ e ∈ o.after, Region.binds .any e = true → listed.getD e.on false = true := by
  simp only [ownOk, hi, Bool.and_eq_true, List.all_eq_true, Array.mem_toList_iff, Bool.or_eq_true, Bool.not_eq_true'] at h
  refine ⟨?_, fun e he hb => (h.2 e he).resolve_left (by rw [hb]; simp)⟩
  rw [List.contains_eq_mem, decide_eq_true_iff]
  simp only [Region.ready, List.mem_filter, List.mem_range, hi, Option.map_some, Option.getD_some, Bool.and_eq_true, Bool.not_eq_true', Array.all_eq_true', Bool.or_eq_true]
  exact ⟨(Array.getElem?_eq_some_iff.1 hi).1, h.1, fun e he => h.2 e he⟩

/-- Each entry: an operation's number, and whether it is taken (true) or comes up alone (false). -/
def chkOrder (ops : Array Oper) : List (Nat × Bool) → Array Bool → Bool
  | [], listed => (Region.ready .any ops listed).isEmpty
  | (i, true) :: r, listed => ownOk ops listed i && chkOrder ops r (listed.setIfInBounds i true)
  | (i, false) :: r, listed => (Region.ready .any ops listed == [i]) && chkOrder ops r (listed.setIfInBounds i true)
def okOrder (ops : Array Oper) (order : List (Nat × Bool)) : Bool :=
  (Region.noSelect ops && (looksOk ops && apartB ops.toList)) && (decide (order.length ≤ ops.size) && chkOrder ops order (Array.replicate ops.size false))

/-- The walk in that order; the condition that is held may be made stronger at each call. -/
def walkO (P : Program) (ops : Array Oper) (Q : Exit → Act → World → Prop) : List (Nat × Bool) → (World → Prop) → Act → World → Prop
  | [], _, a, w => Q .normal a w
  | (i, true) :: r, S, a, w => ∃ o v, ops[i]? = some o ∧ YieldsIf P ops S o v a ∧ walkO P ops Q r S (a.put o.dst v) w
  | (i, false) :: r, S, a, w => ∃ o, ops[i]? = some o ∧ ∀ K : Act → World → Prop, Hid (∀ (S' : World → Prop) a' w', (∀ x, S' x → S x) → S' w' → walkO P ops Q r S' a' w' → K a' w') →
      if Region.wanted o (yielded ops a.tmps) = true then Oper.wp P o a w K Q else K (a.put o.dst undef) w

theorem walkO_any (hQ : ∀ c a d v w, Q (.panic c) (Act.put a d v) w → Q (.panic c) a w) (hs : Region.noSelect ops = true ∧ looksOk ops = true ∧ apartB ops.toList = true) :
    ∀ (order : List (Nat × Bool)) (S : World → Prop) (fuel : Nat) (listed : Array Bool) (a : Act) (w : World), chkOrder ops order listed = true → order.length ≤ fuel → S w → walkO P ops Q order S a w → wpAnyH P .any ops Q S fuel listed a w
  | [], S, fuel, listed, a, w, hc, _, _, h => wpAnyH_done (by simpa [chkOrder] using hc) h fuel
  | (i, true) :: r, S, fuel, listed, a, w, hc, hl, hS, h => by
    obtain ⟨o, v, ho, hy, h⟩ := h
    simp only [chkOrder, Bool.and_eq_true] at hc
    obtain ⟨fuel, rfl⟩ : ∃ f, fuel = f + 1 := ⟨fuel - 1, by simp at hl; omega⟩
    have hw := ownOk_spec ho hc.1
    exact wpAnyH_take ho hs.1 (free_static hs.2.1 hs.2.2 ho hw.2) hw.1 (fun c a w => hQ c a o.dst v w) hy hS (walkO_any hQ hs r S fuel _ _ _ hc.2 (by simpa using hl) hS h)
  | (i, false) :: r, S, fuel, listed, a, w, hc, hl, hS, h => by
    obtain ⟨o, ho, h⟩ := h
    simp only [chkOrder, Bool.and_eq_true, beq_iff_eq] at hc
    obtain ⟨fuel, rfl⟩ : ∃ f, fuel = f + 1 := ⟨fuel - 1, by simp at hl; omega⟩
    refine wpAnyH_ready hc.1 (by simp) (AllReadyH.cons ho (fun K hK => ?_) AllReadyH.nil)
    exact h K (Lib.hid fun S' a' w' hSS hS' hw => hK.out a' w' (hSS _ hS') fun _ => wpAnyH_strengthen hSS _ _ _ _ (walkO_any hQ hs r S' fuel _ _ _ hc.2 (by simpa using hl) hS' hw))

theorem walkO_take {i : Nat} {r : List (Nat × Bool)} {S : World → Prop} {a : Act} {w : World} {o : Oper} {v : Value} (ho : ops[i]? = some o) (hy : YieldsIf P ops S o v a) (h : walkO P ops Q r S (a.put o.dst v) w) : walkO P ops Q ((i, true) :: r) S a w := ⟨o, v, ho, hy, h⟩
theorem walkO_call {i : Nat} {r : List (Nat × Bool)} {S : World → Prop} {a : Act} {w : World} {o : Oper} (ho : ops[i]? = some o) (h : ∀ K : Act → World → Prop, Hid (∀ (S' : World → Prop) a' w', (∀ x, S' x → S x) → S' w' → walkO P ops Q r S' a' w' → K a' w') →
      if Region.wanted o (yielded ops a.tmps) = true then Oper.wp P o a w K Q else K (a.put o.dst undef) w) : walkO P ops Q ((i, false) :: r) S a w := ⟨o, ho, h⟩
theorem walkO_done {S : World → Prop} {a : Act} {w : World} (h : Q .normal a w) : walkO P ops (NoPanic Q) [] S a w := NoPanic.normal h
/-- A region that draws, in an order that the kernel has checked. -/
theorem wp_region_order {id : Nat} {a : Act} {w : World} (order : List (Nat × Bool)) (S : World → Prop) (hm : P.follows .mixedOrders = true) (hc : okOrder ops order = true) (hS : S w.drew)
    (h : ∀ OPS, Hid (OPS = ops) → walkO P OPS (NoPanic Q) order S a w.drew) : (Code.region id ops true).wp P Q a w := by
  unfold okOrder at hc
  simp only [Bool.and_eq_true, decide_eq_true_iff] at hc
  refine wp_region_noPanic (wp_region_held_drew hm hS fun _ => ?_)
  exact walkO_any (fun _ _ _ _ _ h => h) hc.1 order S ops.size _ _ _ hc.2.2 hc.2.1 hS (h _ (Lib.hid rfl))
end
end Go.Proofs.Ytdoamelhclnphaa

namespace Go.Proofs.Ytdoamelhclnphaa
open Go.RowKit

section
variable {P : Program} {ops : Array Oper} {Q : Exit → Act → World → Prop} {S : World → Prop} {X : Nat → Bool}

/-- Whatever comes up: behind an operation of X nothing is held any more, behind any other one S is. -/
def wpTill (P : Program) (ops : Array Oper) (Q : Exit → Act → World → Prop) (S : World → Prop) (X : Nat → Bool) : Nat → Array Bool → Act → World → Prop
  | 0, listed, a, w => Region.ready .any ops listed = [] ∧ Q .normal a w
  | fuel + 1, listed, a, w => (Region.ready .any ops listed = [] → Q .normal a w) ∧
      ∀ j ∈ Region.ready .any ops listed, (X j = true → wpOp P ops Q j (wpAny P .any ops Q fuel (listed.setIfInBounds j true)) a w) ∧
        (X j = false → wpOp P ops Q j (fun b u => S u ∧ wpTill P ops Q S X fuel (listed.setIfInBounds j true) b u) a w)
theorem wpTill_any : ∀ (fuel : Nat) (listed : Array Bool) (a : Act) (w : World), wpTill P ops Q S X fuel listed a w → wpAny P .any ops Q fuel listed a w
  | 0, _, _, _, h => h
  | fuel + 1, listed, a, w, h => ⟨h.1, fun j hj => by
      cases hx : X j with
      | true => exact (h.2 j hj).1 hx
      | false => exact wpOp_mono (fun b u k => wpTill_any fuel _ b u k.2) ((h.2 j hj).2 hx)⟩
theorem wpTill_mono {S' : World → Prop} (hSS : ∀ w, S' w → S w) : ∀ (fuel : Nat) (listed : Array Bool) (a : Act) (w : World), wpTill P ops Q S' X fuel listed a w → wpTill P ops Q S X fuel listed a w
  | 0, _, _, _, h => h
  | fuel + 1, listed, a, w, h => ⟨h.1, fun j hj => ⟨(h.2 j hj).1, fun hx => wpOp_mono (fun b u k => ⟨hSS _ k.1, wpTill_mono hSS fuel _ b u k.2⟩) ((h.2 j hj).2 hx)⟩⟩

/-- What yields its value wherever S holds may be taken first, if each of X waits for it. -/
theorem wpTill_take {i : Nat} {oi : Oper} {v : Value} (hi : ops[i]? = some oi) (hsel : Region.noSelect ops = true) (hQ : ∀ c a w, Q (.panic c) (Act.put a oi.dst v) w → Q (.panic c) a w)
    (hX : ∀ j o, X j = true → ops[j]? = some o → ∃ e ∈ o.after, Region.binds .any e = true ∧ e.on = i) :
    ∀ (fuel : Nat) (listed : Array Bool) (a : Act) (w : World), Region.free .any ops listed i = true → (Region.ready .any ops listed).contains i = true → YieldsIf P ops S oi v a → S w →
      wpTill P ops Q S X fuel (listed.setIfInBounds i true) (a.put oi.dst v) w → wpTill P ops Q S X (fuel + 1) listed a w := by
  have ns := Region.noSelect_spec hsel
  -- what is taken may stand before any other operation
  have key : ∀ (fuel : Nat) (listed : Array Bool) (a : Act) (w : World), (∀ j oj, ops[j]? = some oj → j ≠ i → listed.getD j true = false → (∀ e ∈ oj.after, Region.binds .any e = true → e.on ≠ i) → oi.apart ops oj = true) →
      i ∈ Region.ready .any ops listed → YieldsIf P ops S oi v a → S w → wpTill P ops Q S X fuel (listed.setIfInBounds i true) (a.put oi.dst v) w → wpTill P ops Q S X (fuel + 1) listed a w := by
    intro fuel
    induction fuel with
    | zero =>
      intro listed a w _ hr hy hS H
      refine ⟨(fun h0 => by rw [h0] at hr; cases hr), fun j hj => ?_⟩
      have hji : j = i := Classical.byContradiction fun hne => by
        have h2 := ready_mono hj hne
        rw [H.1] at h2
        cases h2
      subst hji
      refine ⟨fun hx => hy.wpOp hi hS (wpTill_any 0 _ _ _ H), fun _ => hy.wpOp hi hS ⟨hS, H⟩⟩
    | succ fuel ih =>
      intro listed a w hap hr hy hS H
      refine ⟨(fun h0 => by rw [h0] at hr; cases hr), fun j hj => ?_⟩
      by_cases hji : j = i
      · subst hji
        exact ⟨fun hx => hy.wpOp hi hS (wpTill_any _ _ _ _ H), fun _ => hy.wpOp hi hS ⟨hS, H⟩⟩
      · obtain ⟨hjn, oj, hoj, hall⟩ := mem_ready.1 hj
        have hin : listed.getD i false ≠ true := fun h1 => by
          have h0 := (mem_ready.1 hr).1
          simp only [Array.getD_eq_getD_getElem?] at h0 h1
          cases hq : listed[i]? with
          | none => rw [hq] at h1; simp at h1
          | some q => rw [hq] at h0 h1; simp at h0 h1; rw [h0] at h1; cases h1
        have hno : ∀ e ∈ oj.after, Region.binds .any e = true → e.on ≠ i := fun e he hb heq => hin (heq ▸ hall e he hb)
        refine ⟨fun hx => ?_, fun hx => ?_⟩
        · obtain ⟨e, he, hb, heq⟩ := hX j oj hx hoj
          exact absurd heq (hno e he hb)
        · have h1 := (H.2 j (ready_mono hj hji)).2 hx
          have h2 := wpOp_putIf hoj (hap j oj hoj hji hjn hno) (fun cs b => ns i oi cs b hi) (fun cs b => ns j oj cs b hoj) hQ hy h1
          refine wpOp_mono (fun b u k => ⟨k.2.1, ih (listed.setIfInBounds j true) b u ?_ (ready_mono hr (fun e => hji e.symm)) k.1 k.2.1 ?_⟩) h2
          · intro q oq hq hqi hqn hqe
            refine hap q oq hq hqi ?_ hqe
            by_cases hjq : j = q
            · subst hjq; exact hjn
            · rwa [getD_set_ne true hjq] at hqn
          · rw [Array.setIfInBounds_comm _ _ hji]
            exact k.2.2
  exact fun fuel listed a w hf hr hy hS H => key fuel listed a w (Region.free_spec hi hf) (by simpa using hr) hy hS H

/-- The order's head as in RegionT; its tail: each alone may come up. -/
def chkTail (ops : Array Oper) : List Nat → Array Bool → Bool
  | [], listed => (Region.ready .any ops listed).isEmpty
  | i :: r, listed => (Region.ready .any ops listed == [i]) && chkTail ops r (listed.setIfInBounds i true)
def chkTill (ops : Array Oper) (tail : List Nat) : List (Nat × Bool) → Array Bool → Bool
  | [], listed => chkTail ops tail listed
  | (i, true) :: r, listed => (ownOk ops listed i && tail.all fun x => edgeB ops x i) && chkTill ops tail r (listed.setIfInBounds i true)
  | (i, false) :: r, listed => (Region.ready .any ops listed == [i] && !tail.contains i) && chkTill ops tail r (listed.setIfInBounds i true)
def okTill (ops : Array Oper) (order : List (Nat × Bool)) (tail : List Nat) : Bool :=
  (Region.noSelect ops && (looksOk ops && apartB ops.toList)) && (decide (order.length + tail.length ≤ ops.size) && chkTill ops tail order (Array.replicate ops.size false))
def walkTail (P : Program) (ops : Array Oper) (Q : Exit → Act → World → Prop) : List Nat → Act → World → Prop
  | [], a, w => Q .normal a w
  | i :: r, a, w => ∃ o, ops[i]? = some o ∧ ∀ K : Act → World → Prop, Hid (∀ a' w', walkTail P ops Q r a' w' → K a' w') →
      if Region.wanted o (yielded ops a.tmps) = true then Oper.wp P o a w K Q else K (a.put o.dst undef) w
def walkX (P : Program) (ops : Array Oper) (Q : Exit → Act → World → Prop) (tail : List Nat) : List (Nat × Bool) → (World → Prop) → Act → World → Prop
  | [], _, a, w => walkTail P ops Q tail a w
  | (i, true) :: r, S, a, w => ∃ o v, ops[i]? = some o ∧ YieldsIf P ops S o v a ∧ walkX P ops Q tail r S (a.put o.dst v) w
  | (i, false) :: r, S, a, w => ∃ o, ops[i]? = some o ∧ ∀ K : Act → World → Prop, Hid (∀ (S' : World → Prop) a' w', (∀ x, S' x → S x) → S' w' → walkX P ops Q tail r S' a' w' → K a' w') →
      if Region.wanted o (yielded ops a.tmps) = true then Oper.wp P o a w K Q else K (a.put o.dst undef) w
theorem walkTail_any : ∀ (tail : List Nat) (fuel : Nat) (listed : Array Bool) (a : Act) (w : World), chkTail ops tail listed = true → tail.length ≤ fuel → walkTail P ops Q tail a w → wpAny P .any ops Q fuel listed a w
  | [], fuel, listed, a, w, hc, _, h => wpAny_done (by simpa [chkTail] using hc) h fuel
  | i :: r, fuel, listed, a, w, hc, hl, h => by
    obtain ⟨o, ho, h⟩ := h
    simp only [chkTail, Bool.and_eq_true, beq_iff_eq] at hc
    obtain ⟨fuel, rfl⟩ : ∃ f, fuel = f + 1 := ⟨fuel - 1, by simp at hl; omega⟩
    refine wpAny_all hc.1 (by simp) fun j hj => ?_
    obtain rfl : j = i := by simpa using hj
    exact wpOp_step ho fun K hK => h K (Lib.hid fun a' w' hw => hK a' w' (walkTail_any r fuel _ _ _ hc.2 (by simpa using hl) hw))
theorem walkX_till (hQ : ∀ c a d v w, Q (.panic c) (Act.put a d v) w → Q (.panic c) a w) (hs : Region.noSelect ops = true ∧ looksOk ops = true ∧ apartB ops.toList = true) {tail : List Nat} :
    ∀ (order : List (Nat × Bool)) (S : World → Prop) (fuel : Nat) (listed : Array Bool) (a : Act) (w : World), chkTill ops tail order listed = true → order.length + tail.length ≤ fuel → S w → walkX P ops Q tail order S a w → wpTill P ops Q S (fun j => tail.contains j) fuel listed a w
  | [], S, fuel, listed, a, w, hc, hl, hS, h => by
    rw [show chkTill ops tail [] listed = chkTail ops tail listed from rfl] at hc
    rw [show walkX P ops Q tail [] S a w = walkTail P ops Q tail a w from rfl] at h
    cases tail with
    | nil =>
      have hr : Region.ready .any ops listed = [] := by simpa [chkTail] using hc
      cases fuel with
      | zero => exact ⟨hr, h⟩
      | succ fuel => exact ⟨fun _ => h, fun j hj => by rw [hr] at hj; cases hj⟩
    | cons i r =>
      obtain ⟨o, ho, h⟩ := h
      simp only [chkTail, Bool.and_eq_true, beq_iff_eq] at hc
      obtain ⟨fuel, rfl⟩ : ∃ f, fuel = f + 1 := ⟨fuel - 1, by simp at hl; omega⟩
      refine ⟨fun h0 => by rw [h0] at hc; simp at hc, fun j hj => ?_⟩
      rw [hc.1] at hj
      obtain rfl : j = i := by simpa using hj
      refine ⟨fun _ => wpOp_step ho fun K hK => h K (Lib.hid fun a' w' hw => hK a' w' (walkTail_any r fuel _ _ _ hc.2 (by simp at hl; omega) hw)), fun hx => by simp at hx⟩
  | (i, true) :: r, S, fuel, listed, a, w, hc, hl, hS, h => by
    obtain ⟨o, v, ho, hy, h⟩ := h
    simp only [chkTill, Bool.and_eq_true, List.all_eq_true] at hc
    obtain ⟨fuel, rfl⟩ : ∃ f, fuel = f + 1 := ⟨fuel - 1, by simp at hl; omega⟩
    have hw := ownOk_spec ho hc.1.1
    exact wpTill_take ho hs.1 (fun c a w => hQ c a o.dst v w) (fun j oj hx hoj => (edgeB_iff hoj).1 (hc.1.2 j (by simpa using hx))) fuel _ _ _ (free_static hs.2.1 hs.2.2 ho hw.2) hw.1 hy hS (walkX_till hQ hs r S fuel _ _ _ hc.2 (by simp at hl; omega) hS h)
  | (i, false) :: r, S, fuel, listed, a, w, hc, hl, hS, h => by
    obtain ⟨o, ho, h⟩ := h
    simp only [chkTill, Bool.and_eq_true, beq_iff_eq, Bool.not_eq_true'] at hc
    obtain ⟨fuel, rfl⟩ : ∃ f, fuel = f + 1 := ⟨fuel - 1, by simp at hl; omega⟩
    refine ⟨fun h0 => by rw [h0] at hc; simp at hc, fun j hj => ?_⟩
    rw [hc.1.1] at hj
    obtain rfl : j = i := by simpa using hj
    refine ⟨(fun hx => by have hx' : tail.contains j = true := hx; rw [hc.1.2] at hx'; cases hx'), fun _ => wpOp_step ho fun K hK => h K (Lib.hid fun S' a' w' hSS hS' hw => hK a' w' ⟨hSS _ hS', wpTill_mono hSS _ _ _ _ (walkX_till hQ hs r S' fuel _ _ _ hc.2 (by simp at hl; omega) hS' hw)⟩)⟩

theorem walkX_take {tail : List Nat} {i : Nat} {r : List (Nat × Bool)} {S : World → Prop} {a : Act} {w : World} {o : Oper} {v : Value} (ho : ops[i]? = some o) (hy : YieldsIf P ops S o v a) (h : walkX P ops Q tail r S (a.put o.dst v) w) : walkX P ops Q tail ((i, true) :: r) S a w := ⟨o, v, ho, hy, h⟩
theorem walkX_call {tail : List Nat} {i : Nat} {r : List (Nat × Bool)} {S : World → Prop} {a : Act} {w : World} {o : Oper} (ho : ops[i]? = some o) (h : ∀ K : Act → World → Prop, Hid (∀ (S' : World → Prop) a' w', (∀ x, S' x → S x) → S' w' → walkX P ops Q tail r S' a' w' → K a' w') →
      if Region.wanted o (yielded ops a.tmps) = true then Oper.wp P o a w K Q else K (a.put o.dst undef) w) : walkX P ops Q tail ((i, false) :: r) S a w := ⟨o, ho, h⟩
theorem walkX_tail {tail : List Nat} {S : World → Prop} {a : Act} {w : World} (h : walkTail P ops Q tail a w) : walkX P ops Q tail [] S a w := h
theorem walkTail_step {i : Nat} {r : List Nat} {a : Act} {w : World} {o : Oper} (ho : ops[i]? = some o) (h : ∀ K : Act → World → Prop, Hid (∀ a' w', walkTail P ops Q r a' w' → K a' w') →
      if Region.wanted o (yielded ops a.tmps) = true then Oper.wp P o a w K Q else K (a.put o.dst undef) w) : walkTail P ops Q (i :: r) a w := ⟨o, ho, h⟩
theorem walkTail_done {a : Act} {w : World} (h : Q .normal a w) : walkTail P ops (NoPanic Q) [] a w := NoPanic.normal h
theorem wp_region_till {id : Nat} {a : Act} {w : World} (order : List (Nat × Bool)) (tail : List Nat) (S : World → Prop) (hm : P.follows .mixedOrders = true) (hc : okTill ops order tail = true) (hS : S w.drew)
    (h : ∀ OPS, Hid (OPS = ops) → walkX P OPS (NoPanic Q) tail order S a w.drew) : (Code.region id ops true).wp P Q a w := by
  unfold okTill at hc
  simp only [Bool.and_eq_true, decide_eq_true_iff] at hc
  exact wp_region_noPanic (wp_region_any hm (wpTill_any _ _ _ _ (walkX_till (fun _ _ _ _ _ h => h) hc.1 order S ops.size _ _ _ hc.2.2 hc.2.1 hS (h _ (Lib.hid rfl)))))
end
end Go.Proofs.Ytdoamelhclnphaa

namespace Go.Proofs.Ytdoamelhclnphaa
open Go.RowKit

section
variable {P : Program} {ops : Array Oper} {Q : Exit → Act → World → Prop} {S : World → Prop} {X : Nat → Bool}

/-- What has come up has all come up that it waits for. -/
def ClosedL (ops : Array Oper) (listed : Array Bool) : Prop := ∀ j o, ops[j]? = some o → listed.getD j false = true → ∀ e ∈ o.after, Region.binds .any e = true → listed.getD e.on false = true
theorem getD_set_true {listed : Array Bool} {i k : Nat} (h : listed.getD k false = true) : (listed.setIfInBounds i true).getD k false = true := by
  by_cases hk : i = k
  · subst hk
    simp only [Array.getD_eq_getD_getElem?] at h ⊢
    rw [Array.getElem?_setIfInBounds_self]
    split
    · rfl
    · rename_i hn
      rw [Array.getElem?_eq_none (by omega)] at h
      simp at h
  · rw [getD_set_ne false hk]; exact h
theorem ClosedL.set {listed : Array Bool} (h : ClosedL ops listed) {j : Nat} {oj : Oper} (hj : ops[j]? = some oj) (hall : ∀ e ∈ oj.after, Region.binds .any e = true → listed.getD e.on false = true) : ClosedL ops (listed.setIfInBounds j true) := by
  intro k o hk hl e he hb
  by_cases hkj : j = k
  · subst hkj
    rw [hj] at hk
    injection hk with hk
    subst hk
    exact getD_set_true (hall e he hb)
  · rw [getD_set_ne false hkj] at hl
    exact getD_set_true (h k o hk hl e he hb)
def pathB (ops : Array Oper) : Nat → Nat → Nat → Bool
  | 0, _, _ => false
  | f + 1, x, i => edgeB ops x i || match ops[x]? with
    | some o => o.after.toList.any fun e => Region.binds .any e && pathB ops f e.on i
    | none => false
theorem pathB_listed {listed : Array Bool} (hcl : ClosedL ops listed) {i : Nat} : ∀ (f x : Nat) (o : Oper), ops[x]? = some o → pathB ops f x i = true → (∀ e ∈ o.after, Region.binds .any e = true → listed.getD e.on false = true) → listed.getD i false = true
  | 0, x, o, hx, hp, _ => by simp [pathB] at hp
  | f + 1, x, o, hx, hp, hall => by
    simp only [pathB, Bool.or_eq_true, hx] at hp
    rcases hp with hp | hp
    · obtain ⟨e, he, hb, rfl⟩ := (edgeB_iff hx).1 hp
      exact hall e he hb
    · obtain ⟨e, he, hq⟩ := List.any_eq_true.1 hp
      rw [Bool.and_eq_true] at hq
      have he' : e ∈ o.after := Array.mem_toList_iff.1 he
      have hl := hall e he' hq.1
      cases ho : ops[e.on]? with
      | none =>
        cases f with
        | zero => simp [pathB] at hq
        | succ f => simp [pathB, edgeB, ho] at hq
      | some o' => exact pathB_listed hcl f e.on o' ho hq.2 (fun e2 h2 hb2 => hcl e.on o' ho hl e2 h2 hb2)

/-- What yields its value wherever S holds may be taken first, if each of X waits for it. -/
theorem wpTill_takeY {i : Nat} {oi : Oper} {v : Value} (hi : ops[i]? = some oi) (hsel : Region.noSelect ops = true) (hQ : ∀ c a w, Q (.panic c) (Act.put a oi.dst v) w → Q (.panic c) a w)
    (hX : ∀ j o, X j = true → ops[j]? = some o → pathB ops ops.size j i = true) :
    ∀ (fuel : Nat) (listed : Array Bool) (a : Act) (w : World), ClosedL ops listed → Region.free .any ops listed i = true → (Region.ready .any ops listed).contains i = true → YieldsIf P ops S oi v a → S w →
      wpTill P ops Q S X fuel (listed.setIfInBounds i true) (a.put oi.dst v) w → wpTill P ops Q S X (fuel + 1) listed a w := by
  have ns := Region.noSelect_spec hsel
  have key : ∀ (fuel : Nat) (listed : Array Bool) (a : Act) (w : World), ClosedL ops listed → (∀ j oj, ops[j]? = some oj → j ≠ i → listed.getD j true = false → (∀ e ∈ oj.after, Region.binds .any e = true → e.on ≠ i) → oi.apart ops oj = true) →
      i ∈ Region.ready .any ops listed → YieldsIf P ops S oi v a → S w → wpTill P ops Q S X fuel (listed.setIfInBounds i true) (a.put oi.dst v) w → wpTill P ops Q S X (fuel + 1) listed a w := by
    intro fuel
    induction fuel with
    | zero =>
      intro listed a w _ _ hr hy hS H
      refine ⟨(fun h0 => by rw [h0] at hr; cases hr), fun j hj => ?_⟩
      have hji : j = i := Classical.byContradiction fun hne => by
        have h2 := ready_mono hj hne
        rw [H.1] at h2
        cases h2
      subst hji
      refine ⟨fun hx => hy.wpOp hi hS (wpTill_any 0 _ _ _ H), fun _ => hy.wpOp hi hS ⟨hS, H⟩⟩
    | succ fuel ih =>
      intro listed a w hcl hap hr hy hS H
      refine ⟨(fun h0 => by rw [h0] at hr; cases hr), fun j hj => ?_⟩
      by_cases hji : j = i
      · subst hji
        exact ⟨fun hx => hy.wpOp hi hS (wpTill_any _ _ _ _ H), fun _ => hy.wpOp hi hS ⟨hS, H⟩⟩
      · obtain ⟨hjn, oj, hoj, hall⟩ := mem_ready.1 hj
        have hin : listed.getD i false ≠ true := fun h1 => by
          have h0 := (mem_ready.1 hr).1
          simp only [Array.getD_eq_getD_getElem?] at h0 h1
          cases hq : listed[i]? with
          | none => rw [hq] at h1; simp at h1
          | some q => rw [hq] at h0 h1; simp at h0 h1; rw [h0] at h1; cases h1
        have hno : ∀ e ∈ oj.after, Region.binds .any e = true → e.on ≠ i := fun e he hb heq => hin (heq ▸ hall e he hb)
        refine ⟨fun hx => ?_, fun hx => ?_⟩
        · exact absurd (pathB_listed hcl _ j oj hoj (hX j oj hx hoj) hall) hin
        · have h1 := (H.2 j (ready_mono hj hji)).2 hx
          have h2 := wpOp_putIf hoj (hap j oj hoj hji hjn hno) (fun cs b => ns i oi cs b hi) (fun cs b => ns j oj cs b hoj) hQ hy h1
          refine wpOp_mono (fun b u k => ⟨k.2.1, ih (listed.setIfInBounds j true) b u (hcl.set hoj hall) ?_ (ready_mono hr (fun e => hji e.symm)) k.1 k.2.1 ?_⟩) h2
          · intro q oq hq hqi hqn hqe
            refine hap q oq hq hqi ?_ hqe
            by_cases hjq : j = q
            · subst hjq; exact hjn
            · rwa [getD_set_ne true hjq] at hqn
          · rw [Array.setIfInBounds_comm _ _ hji]
            exact k.2.2
  exact fun fuel listed a w hcl hf hr hy hS H => key fuel listed a w hcl (Region.free_spec hi hf) (by simpa using hr) hy hS H

def chkTillY (ops : Array Oper) (tail : List Nat) : List (Nat × Bool) → Array Bool → Bool
  | [], listed => chkTail ops tail listed
  | (i, true) :: r, listed => (ownOk ops listed i && tail.all fun x => pathB ops ops.size x i) && chkTillY ops tail r (listed.setIfInBounds i true)
  | (i, false) :: r, listed => (Region.ready .any ops listed == [i] && !tail.contains i) && chkTillY ops tail r (listed.setIfInBounds i true)
def okTillY (ops : Array Oper) (order : List (Nat × Bool)) (tail : List Nat) : Bool :=
  (Region.noSelect ops && (looksOk ops && apartB ops.toList)) && (decide (order.length + tail.length ≤ ops.size) && chkTillY ops tail order (Array.replicate ops.size false))
theorem walkX_tillY (hQ : ∀ c a d v w, Q (.panic c) (Act.put a d v) w → Q (.panic c) a w) (hs : Region.noSelect ops = true ∧ looksOk ops = true ∧ apartB ops.toList = true) {tail : List Nat} :
    ∀ (order : List (Nat × Bool)) (S : World → Prop) (fuel : Nat) (listed : Array Bool) (a : Act) (w : World), ClosedL ops listed → chkTillY ops tail order listed = true → order.length + tail.length ≤ fuel → S w → walkX P ops Q tail order S a w → wpTill P ops Q S (fun j => tail.contains j) fuel listed a w
  | [], S, fuel, listed, a, w, hcl, hc, hl, hS, h => by
    rw [show chkTillY ops tail [] listed = chkTail ops tail listed from rfl] at hc
    rw [show walkX P ops Q tail [] S a w = walkTail P ops Q tail a w from rfl] at h
    cases tail with
    | nil =>
      have hr : Region.ready .any ops listed = [] := by simpa [chkTail] using hc
      cases fuel with
      | zero => exact ⟨hr, h⟩
      | succ fuel => exact ⟨fun _ => h, fun j hj => by rw [hr] at hj; cases hj⟩
    | cons i r =>
      obtain ⟨o, ho, h⟩ := h
      simp only [chkTail, Bool.and_eq_true, beq_iff_eq] at hc
      obtain ⟨fuel, rfl⟩ : ∃ f, fuel = f + 1 := ⟨fuel - 1, by simp at hl; omega⟩
      refine ⟨fun h0 => by rw [h0] at hc; simp at hc, fun j hj => ?_⟩
      rw [hc.1] at hj
      obtain rfl : j = i := by simpa using hj
      refine ⟨fun _ => wpOp_step ho fun K hK => h K (Lib.hid fun a' w' hw => hK a' w' (walkTail_any r fuel _ _ _ hc.2 (by simp at hl; omega) hw)), fun hx => by simp at hx⟩
  | (i, true) :: r, S, fuel, listed, a, w, hcl, hc, hl, hS, h => by
    obtain ⟨o, v, ho, hy, h⟩ := h
    simp only [chkTillY, Bool.and_eq_true, List.all_eq_true] at hc
    obtain ⟨fuel, rfl⟩ : ∃ f, fuel = f + 1 := ⟨fuel - 1, by simp at hl; omega⟩
    have hw := ownOk_spec ho hc.1.1
    exact wpTill_takeY ho hs.1 (fun c a w => hQ c a o.dst v w) (fun j oj hx hoj => hc.1.2 j (by simpa using hx)) fuel _ _ _ hcl (free_static hs.2.1 hs.2.2 ho hw.2) hw.1 hy hS (walkX_tillY hQ hs r S fuel _ _ _ (hcl.set ho hw.2) hc.2 (by simp at hl; omega) hS h)
  | (i, false) :: r, S, fuel, listed, a, w, hcl, hc, hl, hS, h => by
    obtain ⟨o, ho, h⟩ := h
    simp only [chkTillY, Bool.and_eq_true, beq_iff_eq, Bool.not_eq_true'] at hc
    obtain ⟨fuel, rfl⟩ : ∃ f, fuel = f + 1 := ⟨fuel - 1, by simp at hl; omega⟩
    refine ⟨fun h0 => by rw [h0] at hc; simp at hc, fun j hj => ?_⟩
    have hjr := hj
    rw [hc.1.1] at hj
    obtain rfl : j = i := by simpa using hj
    obtain ⟨_, oj, hoj, hall⟩ := mem_ready.1 hjr
    refine ⟨(fun hx => by have hx' : tail.contains j = true := hx; rw [hc.1.2] at hx'; cases hx'), fun _ => wpOp_step ho fun K hK => h K (Lib.hid fun S' a' w' hSS hS' hw => hK a' w' ⟨hSS _ hS', wpTill_mono hSS _ _ _ _ (walkX_tillY hQ hs r S' fuel _ _ _ (hcl.set hoj hall) hc.2 (by simp at hl; omega) hS' hw)⟩)⟩
theorem wp_region_late {id : Nat} {a : Act} {w : World} (order : List (Nat × Bool)) (tail : List Nat) (S : World → Prop) (hm : P.follows .mixedOrders = true) (hc : okTillY ops order tail = true) (hS : S w.drew)
    (h : ∀ OPS, Hid (OPS = ops) → walkX P OPS (NoPanic Q) tail order S a w.drew) : (Code.region id ops true).wp P Q a w := by
  unfold okTillY at hc
  simp only [Bool.and_eq_true, decide_eq_true_iff] at hc
  refine wp_region_noPanic (wp_region_any hm (wpTill_any _ _ _ _ (walkX_tillY (fun _ _ _ _ _ h => h) hc.1 order S ops.size _ _ _ ?_ hc.2.2 hc.2.1 hS (h _ (Lib.hid rfl)))))
  intro j o _ hl
  simp only [Array.getD_eq_getD_getElem?, Array.getElem?_replicate] at hl
  split at hl <;> simp at hl
end
end Go.Proofs.Ytdoamelhclnphaa
