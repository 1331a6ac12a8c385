/-
  A region that draws its order, walked in one order, as RegionT; its last operations (stores) need not keep the condition: each of them waits for all that was taken first.
-/
import Derived.Test.YtodpkdbcdbdjfaaRegionT
namespace Go.Proofs.Ytodpkdbcdbdjfaa
open Go.RowKit

section
variable {P : Program} {ops : Array Oper} {Q : Exit → Act → World → Prop} {S : World → Prop} {X : Nat → Bool}

/-- Whatever comes up: behind an operation of X nothing is held any more, behind any other one S is. -/
def wpTill (P : Program) (ops : Array Oper) (Q : Exit → Act → World → Prop) (S : World → Prop) (X : Nat → Bool) : Nat → Array Bool → Act → World → Prop
  | 0, listed, a, w => Region.ready .any ops listed = [] ∧ Q .normal a w
  | fuel + 1, listed, a, w => (Region.ready .any ops listed = [] → Q .normal a w) ∧
      ∀ j ∈ Region.ready .any ops listed, (X j = true → wpOp P ops Q j (wpAny P .any ops Q fuel (listed.setIfInBounds j true)) a w) ∧
        (X j = false → wpOp P ops Q j (fun b u => S u ∧ wpTill P ops Q S X fuel (listed.setIfInBounds j true) b u) a w)
theorem wpTill_any : ∀ (fuel : Nat) (listed : Array Bool) (a : Act) (w : World), wpTill P ops Q S X fuel listed a w → wpAny P .any ops Q fuel listed a w
  | 0, _, _, _, h => h
  | fuel + 1, listed, a, w, h => ⟨h.1, fun j hj => by
      cases hx : X j with
      | true => exact (h.2 j hj).1 hx
      | false => exact wpOp_mono (fun b u k => wpTill_any fuel _ b u k.2) ((h.2 j hj).2 hx)⟩
theorem wpTill_mono {S' : World → Prop} (hSS : ∀ w, S' w → S w) : ∀ (fuel : Nat) (listed : Array Bool) (a : Act) (w : World), wpTill P ops Q S' X fuel listed a w → wpTill P ops Q S X fuel listed a w
  | 0, _, _, _, h => h
  | fuel + 1, listed, a, w, h => ⟨h.1, fun j hj => ⟨(h.2 j hj).1, fun hx => wpOp_mono (fun b u k => ⟨hSS _ k.1, wpTill_mono hSS fuel _ b u k.2⟩) ((h.2 j hj).2 hx)⟩⟩

/-- What yields its value wherever S holds may be taken first, if each of X waits for it. -/
theorem wpTill_take {i : Nat} {oi : Oper} {v : Value} (hi : ops[i]? = some oi) (hsel : Region.noSelect ops = true) (hQ : ∀ c a w, Q (.panic c) (Act.put a oi.dst v) w → Q (.panic c) a w)
    (hX : ∀ j o, X j = true → ops[j]? = some o → ∃ e ∈ o.after, Region.binds .any e = true ∧ e.on = i) :
    ∀ (fuel : Nat) (listed : Array Bool) (a : Act) (w : World), Region.free .any ops listed i = true → (Region.ready .any ops listed).contains i = true → YieldsIf P ops S oi v a → S w →
      wpTill P ops Q S X fuel (listed.setIfInBounds i true) (a.put oi.dst v) w → wpTill P ops Q S X (fuel + 1) listed a w := by
  have ns := Region.noSelect_spec hsel
  -- what is taken may stand before any other operation
  have key : ∀ (fuel : Nat) (listed : Array Bool) (a : Act) (w : World), (∀ j oj, ops[j]? = some oj → j ≠ i → listed.getD j true = false → (∀ e ∈ oj.after, Region.binds .any e = true → e.on ≠ i) → oi.apart ops oj = true) →
      i ∈ Region.ready .any ops listed → YieldsIf P ops S oi v a → S w → wpTill P ops Q S X fuel (listed.setIfInBounds i true) (a.put oi.dst v) w → wpTill P ops Q S X (fuel + 1) listed a w := by
    intro fuel
    induction fuel with
    | zero =>
      intro listed a w _ hr hy hS H
      refine ⟨(fun h0 => by rw [h0] at hr; cases hr), fun j hj => ?_⟩
      have hji : j = i := Classical.byContradiction fun hne => by
        have h2 := ready_mono hj hne
        rw [H.1] at h2
        cases h2
      subst hji
      refine ⟨fun hx => hy.wpOp hi hS (wpTill_any 0 _ _ _ H), fun _ => hy.wpOp hi hS ⟨hS, H⟩⟩
    | succ fuel ih =>
      intro listed a w hap hr hy hS H
      refine ⟨(fun h0 => by rw [h0] at hr; cases hr), fun j hj => ?_⟩
      by_cases hji : j = i
      · subst hji
        exact ⟨fun hx => hy.wpOp hi hS (wpTill_any _ _ _ _ H), fun _ => hy.wpOp hi hS ⟨hS, H⟩⟩
      · obtain ⟨hjn, oj, hoj, hall⟩ := mem_ready.1 hj
        have hin : listed.getD i false ≠ true := fun h1 => by
          have h0 := (mem_ready.1 hr).1
          simp only [Array.getD_eq_getD_getElem?] at h0 h1
          cases hq : listed[i]? with
          | none => rw [hq] at h1; simp at h1
          | some q => rw [hq] at h0 h1; simp at h0 h1; rw [h0] at h1; cases h1
        have hno : ∀ e ∈ oj.after, Region.binds .any e = true → e.on ≠ i := fun e he hb heq => hin (heq ▸ hall e he hb)
        refine ⟨fun hx => ?_, fun hx => ?_⟩
        · obtain ⟨e, he, hb, heq⟩ := hX j oj hx hoj
          exact absurd heq (hno e he hb)
        · have h1 := (H.2 j (ready_mono hj hji)).2 hx
          have h2 := wpOp_putIf hoj (hap j oj hoj hji hjn hno) (fun cs b => ns i oi cs b hi) (fun cs b => ns j oj cs b hoj) hQ hy h1
          refine wpOp_mono (fun b u k => ⟨k.2.1, ih (listed.setIfInBounds j true) b u ?_ (ready_mono hr (fun e => hji e.symm)) k.1 k.2.1 ?_⟩) h2
          · intro q oq hq hqi hqn hqe
            refine hap q oq hq hqi ?_ hqe
            by_cases hjq : j = q
            · subst hjq; exact hjn
            · rwa [getD_set_ne true hjq] at hqn
          · rw [Array.setIfInBounds_comm _ _ hji]
            exact k.2.2
  exact fun fuel listed a w hf hr hy hS H => key fuel listed a w (Region.free_spec hi hf) (by simpa using hr) hy hS H

/-- The order's head as in RegionT; its tail: each alone may come up. -/
def chkTail (ops : Array Oper) : List Nat → Array Bool → Bool
  | [], listed => (Region.ready .any ops listed).isEmpty
  | i :: r, listed => (Region.ready .any ops listed == [i]) && chkTail ops r (listed.setIfInBounds i true)
def chkTill (ops : Array Oper) (tail : List Nat) : List (Nat × Bool) → Array Bool → Bool
  | [], listed => chkTail ops tail listed
  | (i, true) :: r, listed => (ownOk ops listed i && tail.all fun x => edgeB ops x i) && chkTill ops tail r (listed.setIfInBounds i true)
  | (i, false) :: r, listed => (Region.ready .any ops listed == [i] && !tail.contains i) && chkTill ops tail r (listed.setIfInBounds i true)
def okTill (ops : Array Oper) (order : List (Nat × Bool)) (tail : List Nat) : Bool :=
  (Region.noSelect ops && (looksOk ops && apartB ops.toList)) && (decide (order.length + tail.length ≤ ops.size) && chkTill ops tail order (Array.replicate ops.size false))
def walkTail (P : Program) (ops : Array Oper) (Q : Exit → Act → World → Prop) : List Nat → Act → World → Prop
  | [], a, w => Q .normal a w
  | i :: r, a, w => ∃ o, ops[i]? = some o ∧ ∀ K : Act → World → Prop, Hid (∀ a' w', walkTail P ops Q r a' w' → K a' w') →
      if Region.wanted o (yielded ops a.tmps) = true then Oper.wp P o a w K Q else K (a.put o.dst undef) w
def walkX (P : Program) (ops : Array Oper) (Q : Exit → Act → World → Prop) (tail : List Nat) : List (Nat × Bool) → (World → Prop) → Act → World → Prop
  | [], _, a, w => walkTail P ops Q tail a w
  | (i, true) :: r, S, a, w => ∃ o v, ops[i]? = some o ∧ YieldsIf P ops S o v a ∧ walkX P ops Q tail r S (a.put o.dst v) w
  | (i, false) :: r, S, a, w => ∃ o, ops[i]? = some o ∧ ∀ K : Act → World → Prop, Hid (∀ (S' : World → Prop) a' w', (∀ x, S' x → S x) → S' w' → walkX P ops Q tail r S' a' w' → K a' w') →
      if Region.wanted o (yielded ops a.tmps) = true then Oper.wp P o a w K Q else K (a.put o.dst undef) w
theorem walkTail_any : ∀ (tail : List Nat) (fuel : Nat) (listed : Array Bool) (a : Act) (w : World), chkTail ops tail listed = true → tail.length ≤ fuel → walkTail P ops Q tail a w → wpAny P .any ops Q fuel listed a w
  | [], fuel, listed, a, w, hc, _, h => wpAny_done (by simpa [chkTail] using hc) h fuel
  | i :: r, fuel, listed, a, w, hc, hl, h => by
    obtain ⟨o, ho, h⟩ := h
    simp only [chkTail, Bool.and_eq_true, beq_iff_eq] at hc
    obtain ⟨fuel, rfl⟩ : ∃ f, fuel = f + 1 := ⟨fuel - 1, by simp at hl; omega⟩
    refine wpAny_all hc.1 (by simp) fun j hj => ?_
    obtain rfl : j = i := by simpa using hj
    exact wpOp_step ho fun K hK => h K (Lib.hid fun a' w' hw => hK a' w' (walkTail_any r fuel _ _ _ hc.2 (by simpa using hl) hw))
theorem walkX_till (hQ : ∀ c a d v w, Q (.panic c) (Act.put a d v) w → Q (.panic c) a w) (hs : Region.noSelect ops = true ∧ looksOk ops = true ∧ apartB ops.toList = true) {tail : List Nat} :
    ∀ (order : List (Nat × Bool)) (S : World → Prop) (fuel : Nat) (listed : Array Bool) (a : Act) (w : World), chkTill ops tail order listed = true → order.length + tail.length ≤ fuel → S w → walkX P ops Q tail order S a w → wpTill P ops Q S (fun j => tail.contains j) fuel listed a w
  | [], S, fuel, listed, a, w, hc, hl, hS, h => by
    rw [show chkTill ops tail [] listed = chkTail ops tail listed from rfl] at hc
    rw [show walkX P ops Q tail [] S a w = walkTail P ops Q tail a w from rfl] at h
    cases tail with
    | nil =>
      have hr : Region.ready .any ops listed = [] := by simpa [chkTail] using hc
      cases fuel with
      | zero => exact ⟨hr, h⟩
      | succ fuel => exact ⟨fun _ => h, fun j hj => by rw [hr] at hj; cases hj⟩
    | cons i r =>
      obtain ⟨o, ho, h⟩ := h
      simp only [chkTail, Bool.and_eq_true, beq_iff_eq] at hc
      obtain ⟨fuel, rfl⟩ : ∃ f, fuel = f + 1 := ⟨fuel - 1, by simp at hl; omega⟩
      refine ⟨fun h0 => by rw [h0] at hc; simp at hc, fun j hj => ?_⟩
      rw [hc.1] at hj
      obtain rfl : j = i := by simpa using hj
      refine ⟨fun _ => wpOp_step ho fun K hK => h K (Lib.hid fun a' w' hw => hK a' w' (walkTail_any r fuel _ _ _ hc.2 (by simp at hl; omega) hw)), fun hx => by simp at hx⟩
  | (i, true) :: r, S, fuel, listed, a, w, hc, hl, hS, h => by
    obtain ⟨o, v, ho, hy, h⟩ := h
    simp only [chkTill, Bool.and_eq_true, List.all_eq_true] at hc
    obtain ⟨fuel, rfl⟩ : ∃ f, fuel = f + 1 := ⟨fuel - 1, by simp at hl; omega⟩
    have hw := ownOk_spec ho hc.1.1
    exact wpTill_take ho hs.1 (fun c a w => hQ c a o.dst v w) (fun j oj hx hoj => (edgeB_iff hoj).1 (hc.1.2 j (by simpa using hx))) fuel _ _ _ (free_static hs.2.1 hs.2.2 ho hw.2) hw.1 hy hS (walkX_till hQ hs r S fuel _ _ _ hc.2 (by simp at hl; omega) hS h)
  | (i, false) :: r, S, fuel, listed, a, w, hc, hl, hS, h => by
    obtain ⟨o, ho, h⟩ := h
    simp only [chkTill, Bool.and_eq_true, beq_iff_eq, Bool.not_eq_true'] at hc
    obtain ⟨fuel, rfl⟩ : ∃ f, fuel = f + 1 := ⟨fuel - 1, by simp at hl; omega⟩
    refine ⟨fun h0 => by rw [h0] at hc; simp at hc, fun j hj => ?_⟩
    rw [hc.1.1] at hj
    obtain rfl : j = i := by simpa using hj
    refine ⟨(fun hx => by have hx' : tail.contains j = true := hx; rw [hc.1.2] at hx'; cases hx'), fun _ => wpOp_step ho fun K hK => h K (Lib.hid fun S' a' w' hSS hS' hw => hK a' w' ⟨hSS _ hS', wpTill_mono hSS _ _ _ _ (walkX_till hQ hs r S' fuel _ _ _ hc.2 (by simp at hl; omega) hS' hw)⟩)⟩

theorem walkX_take {tail : List Nat} {i : Nat} {r : List (Nat × Bool)} {S : World → Prop} {a : Act} {w : World} {o : Oper} {v : Value} (ho : ops[i]? = some o) (hy : YieldsIf P ops S o v a) (h : walkX P ops Q tail r S (a.put o.dst v) w) : walkX P ops Q tail ((i, true) :: r) S a w := ⟨o, v, ho, hy, h⟩
theorem walkX_call {tail : List Nat} {i : Nat} {r : List (Nat × Bool)} {S : World → Prop} {a : Act} {w : World} {o : Oper} (ho : ops[i]? = some o) (h : ∀ K : Act → World → Prop, Hid (∀ (S' : World → Prop) a' w', (∀ x, S' x → S x) → S' w' → walkX P ops Q tail r S' a' w' → K a' w') →
      if Region.wanted o (yielded ops a.tmps) = true then Oper.wp P o a w K Q else K (a.put o.dst undef) w) : walkX P ops Q tail ((i, false) :: r) S a w := ⟨o, ho, h⟩
theorem walkX_tail {tail : List Nat} {S : World → Prop} {a : Act} {w : World} (h : walkTail P ops Q tail a w) : walkX P ops Q tail [] S a w := h
theorem walkTail_step {i : Nat} {r : List Nat} {a : Act} {w : World} {o : Oper} (ho : ops[i]? = some o) (h : ∀ K : Act → World → Prop, Hid (∀ a' w', walkTail P ops Q r a' w' → K a' w') →
      if Region.wanted o (yielded ops a.tmps) = true then Oper.wp P o a w K Q else K (a.put o.dst undef) w) : walkTail P ops Q (i :: r) a w := ⟨o, ho, h⟩
theorem walkTail_done {a : Act} {w : World} (h : Q .normal a w) : walkTail P ops (NoPanic Q) [] a w := NoPanic.normal h
theorem wp_region_till {id : Nat} {a : Act} {w : World} (order : List (Nat × Bool)) (tail : List Nat) (S : World → Prop) (hm : P.follows .mixedOrders = true) (hc : okTill ops order tail = true) (hS : S w.drew)
    (h : ∀ OPS, Hid (OPS = ops) → walkX P OPS (NoPanic Q) tail order S a w.drew) : (Code.region id ops true).wp P Q a w := by
  unfold okTill at hc
  simp only [Bool.and_eq_true, decide_eq_true_iff] at hc
  exact wp_region_noPanic (wp_region_any hm (wpTill_any _ _ _ _ (walkX_till (fun _ _ _ _ _ h => h) hc.1 order S ops.size _ _ _ hc.2.2 hc.2.1 hS (h _ (Lib.hid rfl)))))
end
end Go.Proofs.Ytodpkdbcdbdjfaa
