/-
  As RegionX; an operation of the tail may wait for what was taken first over others between.
-/
import Derived.Test.YtdoamelhclnphaaRegionX
namespace Go.Proofs.Ytdoamelhclnphaa
open Go.RowKit

section
variable {P : Program} {ops : Array Oper} {Q : Exit → Act → World → Prop} {S : World → Prop} {X : Nat → Bool}

/-- What has come up has all come up that it waits for. -/
def ClosedL (ops : Array Oper) (listed : Array Bool) : Prop := ∀ j o, ops[j]? = some o → listed.getD j false = true → ∀ e ∈ o.after, Region.binds .any e = true → listed.getD e.on false = true
theorem getD_set_true {listed : Array Bool} {i k : Nat} (h : listed.getD k false = true) : (listed.setIfInBounds i true).getD k false = true := by
  by_cases hk : i = k
  · subst hk
    simp only [Array.getD_eq_getD_getElem?] at h ⊢
    rw [Array.getElem?_setIfInBounds_self]
    split
    · rfl
    · rename_i hn
      rw [Array.getElem?_eq_none (by omega)] at h
      simp at h
  · rw [getD_set_ne false hk]; exact h
theorem ClosedL.set {listed : Array Bool} (h : ClosedL ops listed) {j : Nat} {oj : Oper} (hj : ops[j]? = some oj) (hall : ∀ e ∈ oj.after, Region.binds .any e = true → listed.getD e.on false = true) : ClosedL ops (listed.setIfInBounds j true) := by
  intro k o hk hl e he hb
  by_cases hkj : j = k
  · subst hkj
    rw [hj] at hk
    injection hk with hk
    subst hk
    exact getD_set_true (hall e he hb)
  · rw [getD_set_ne false hkj] at hl
    exact getD_set_true (h k o hk hl e he hb)
def pathB (ops : Array Oper) : Nat → Nat → Nat → Bool
  | 0, _, _ => false
  | f + 1, x, i => edgeB ops x i || match ops[x]? with
    | some o => o.after.toList.any fun e => Region.binds .any e && pathB ops f e.on i
    | none => false
theorem pathB_listed {listed : Array Bool} (hcl : ClosedL ops listed) {i : Nat} : ∀ (f x : Nat) (o : Oper), ops[x]? = some o → pathB ops f x i = true → (∀ e ∈ o.after, Region.binds .any e = true → listed.getD e.on false = true) → listed.getD i false = true
  | 0, x, o, hx, hp, _ => by simp [pathB] at hp
  | f + 1, x, o, hx, hp, hall => by
    simp only [pathB, Bool.or_eq_true, hx] at hp
    rcases hp with hp | hp
    · obtain ⟨e, he, hb, rfl⟩ := (edgeB_iff hx).1 hp
      exact hall e he hb
    · obtain ⟨e, he, hq⟩ := List.any_eq_true.1 hp
      rw [Bool.and_eq_true] at hq
      have he' : e ∈ o.after := Array.mem_toList_iff.1 he
      have hl := hall e he' hq.1
      cases ho : ops[e.on]? with
      | none =>
        cases f with
        | zero => simp [pathB] at hq
        | succ f => simp [pathB, edgeB, ho] at hq
      | some o' => exact pathB_listed hcl f e.on o' ho hq.2 (fun e2 h2 hb2 => hcl e.on o' ho hl e2 h2 hb2)

/-- What yields its value wherever S holds may be taken first, if each of X waits for it. -/
theorem wpTill_takeY {i : Nat} {oi : Oper} {v : Value} (hi : ops[i]? = some oi) (hsel : Region.noSelect ops = true) (hQ : ∀ c a w, Q (.panic c) (Act.put a oi.dst v) w → Q (.panic c) a w)
    (hX : ∀ j o, X j = true → ops[j]? = some o → pathB ops ops.size j i = true) :
    ∀ (fuel : Nat) (listed : Array Bool) (a : Act) (w : World), ClosedL ops listed → Region.free .any ops listed i = true → (Region.ready .any ops listed).contains i = true → YieldsIf P ops S oi v a → S w →
      wpTill P ops Q S X fuel (listed.setIfInBounds i true) (a.put oi.dst v) w → wpTill P ops Q S X (fuel + 1) listed a w := by
  have ns := Region.noSelect_spec hsel
  have key : ∀ (fuel : Nat) (listed : Array Bool) (a : Act) (w : World), ClosedL ops listed → (∀ j oj, ops[j]? = some oj → j ≠ i → listed.getD j true = false → (∀ e ∈ oj.after, Region.binds .any e = true → e.on ≠ i) → oi.apart ops oj = true) →
      i ∈ Region.ready .any ops listed → YieldsIf P ops S oi v a → S w → wpTill P ops Q S X fuel (listed.setIfInBounds i true) (a.put oi.dst v) w → wpTill P ops Q S X (fuel + 1) listed a w := by
    intro fuel
    induction fuel with
    | zero =>
      intro listed a w _ _ hr hy hS H
      refine ⟨(fun h0 => by rw [h0] at hr; cases hr), fun j hj => ?_⟩
      have hji : j = i := Classical.byContradiction fun hne => by
        have h2 := ready_mono hj hne
        rw [H.1] at h2
        cases h2
      subst hji
      refine ⟨fun hx => hy.wpOp hi hS (wpTill_any 0 _ _ _ H), fun _ => hy.wpOp hi hS ⟨hS, H⟩⟩
    | succ fuel ih =>
      intro listed a w hcl hap hr hy hS H
      refine ⟨(fun h0 => by rw [h0] at hr; cases hr), fun j hj => ?_⟩
      by_cases hji : j = i
      · subst hji
        exact ⟨fun hx => hy.wpOp hi hS (wpTill_any _ _ _ _ H), fun _ => hy.wpOp hi hS ⟨hS, H⟩⟩
      · obtain ⟨hjn, oj, hoj, hall⟩ := mem_ready.1 hj
        have hin : listed.getD i false ≠ true := fun h1 => by
          have h0 := (mem_ready.1 hr).1
          simp only [Array.getD_eq_getD_getElem?] at h0 h1
          cases hq : listed[i]? with
          | none => rw [hq] at h1; simp at h1
          | some q => rw [hq] at h0 h1; simp at h0 h1; rw [h0] at h1; cases h1
        have hno : ∀ e ∈ oj.after, Region.binds .any e = true → e.on ≠ i := fun e he hb heq => hin (heq ▸ hall e he hb)
        refine ⟨fun hx => ?_, fun hx => ?_⟩
        · exact absurd (pathB_listed hcl _ j oj hoj (hX j oj hx hoj) hall) hin
        · have h1 := (H.2 j (ready_mono hj hji)).2 hx
          have h2 := wpOp_putIf hoj (hap j oj hoj hji hjn hno) (fun cs b => ns i oi cs b hi) (fun cs b => ns j oj cs b hoj) hQ hy h1
          refine wpOp_mono (fun b u k => ⟨k.2.1, ih (listed.setIfInBounds j true) b u (hcl.set hoj hall) ?_ (ready_mono hr (fun e => hji e.symm)) k.1 k.2.1 ?_⟩) h2
          · intro q oq hq hqi hqn hqe
            refine hap q oq hq hqi ?_ hqe
            by_cases hjq : j = q
            · subst hjq; exact hjn
            · rwa [getD_set_ne true hjq] at hqn
          · rw [Array.setIfInBounds_comm _ _ hji]
            exact k.2.2
  exact fun fuel listed a w hcl hf hr hy hS H => key fuel listed a w hcl (Region.free_spec hi hf) (by simpa using hr) hy hS H

def chkTillY (ops : Array Oper) (tail : List Nat) : List (Nat × Bool) → Array Bool → Bool
  | [], listed => chkTail ops tail listed
  | (i, true) :: r, listed => (ownOk ops listed i && tail.all fun x => pathB ops ops.size x i) && chkTillY ops tail r (listed.setIfInBounds i true)
  | (i, false) :: r, listed => (Region.ready .any ops listed == [i] && !tail.contains i) && chkTillY ops tail r (listed.setIfInBounds i true)
def okTillY (ops : Array Oper) (order : List (Nat × Bool)) (tail : List Nat) : Bool :=
  (Region.noSelect ops && (looksOk ops && apartB ops.toList)) && (decide (order.length + tail.length ≤ ops.size) && chkTillY ops tail order (Array.replicate ops.size false))
theorem walkX_tillY (hQ : ∀ c a d v w, Q (.panic c) (Act.put a d v) w → Q (.panic c) a w) (hs : Region.noSelect ops = true ∧ looksOk ops = true ∧ apartB ops.toList = true) {tail : List Nat} :
    ∀ (order : List (Nat × Bool)) (S : World → Prop) (fuel : Nat) (listed : Array Bool) (a : Act) (w : World), ClosedL ops listed → chkTillY ops tail order listed = true → order.length + tail.length ≤ fuel → S w → walkX P ops Q tail order S a w → wpTill P ops Q S (fun j => tail.contains j) fuel listed a w
  | [], S, fuel, listed, a, w, hcl, hc, hl, hS, h => by
    rw [show chkTillY ops tail [] listed = chkTail ops tail listed from rfl] at hc
    rw [show walkX P ops Q tail [] S a w = walkTail P ops Q tail a w from rfl] at h
    cases tail with
    | nil =>
      have hr : Region.ready .any ops listed = [] := by simpa [chkTail] using hc
      cases fuel with
      | zero => exact ⟨hr, h⟩
      | succ fuel => exact ⟨fun _ => h, fun j hj => by rw [hr] at hj; cases hj⟩
    | cons i r =>
      obtain ⟨o, ho, h⟩ := h
      simp only [chkTail, Bool.and_eq_true, beq_iff_eq] at hc
      obtain ⟨fuel, rfl⟩ : ∃ f, fuel = f + 1 := ⟨fuel - 1, by simp at hl; omega⟩
      refine ⟨fun h0 => by rw [h0] at hc; simp at hc, fun j hj => ?_⟩
      rw [hc.1] at hj
      obtain rfl : j = i := by simpa using hj
      refine ⟨fun _ => wpOp_step ho fun K hK => h K (Lib.hid fun a' w' hw => hK a' w' (walkTail_any r fuel _ _ _ hc.2 (by simp at hl; omega) hw)), fun hx => by simp at hx⟩
  | (i, true) :: r, S, fuel, listed, a, w, hcl, hc, hl, hS, h => by
    obtain ⟨o, v, ho, hy, h⟩ := h
    simp only [chkTillY, Bool.and_eq_true, List.all_eq_true] at hc
    obtain ⟨fuel, rfl⟩ : ∃ f, fuel = f + 1 := ⟨fuel - 1, by simp at hl; omega⟩
    have hw := ownOk_spec ho hc.1.1
    exact wpTill_takeY ho hs.1 (fun c a w => hQ c a o.dst v w) (fun j oj hx hoj => hc.1.2 j (by simpa using hx)) fuel _ _ _ hcl (free_static hs.2.1 hs.2.2 ho hw.2) hw.1 hy hS (walkX_tillY hQ hs r S fuel _ _ _ (hcl.set ho hw.2) hc.2 (by simp at hl; omega) hS h)
  | (i, false) :: r, S, fuel, listed, a, w, hcl, hc, hl, hS, h => by
    obtain ⟨o, ho, h⟩ := h
    simp only [chkTillY, Bool.and_eq_true, beq_iff_eq, Bool.not_eq_true'] at hc
    obtain ⟨fuel, rfl⟩ : ∃ f, fuel = f + 1 := ⟨fuel - 1, by simp at hl; omega⟩
    refine ⟨fun h0 => by rw [h0] at hc; simp at hc, fun j hj => ?_⟩
    have hjr := hj
    rw [hc.1.1] at hj
    obtain rfl : j = i := by simpa using hj
    obtain ⟨_, oj, hoj, hall⟩ := mem_ready.1 hjr
    refine ⟨(fun hx => by have hx' : tail.contains j = true := hx; rw [hc.1.2] at hx'; cases hx'), fun _ => wpOp_step ho fun K hK => h K (Lib.hid fun S' a' w' hSS hS' hw => hK a' w' ⟨hSS _ hS', wpTill_mono hSS _ _ _ _ (walkX_tillY hQ hs r S' fuel _ _ _ (hcl.set hoj hall) hc.2 (by simp at hl; omega) hS' hw)⟩)⟩
theorem wp_region_late {id : Nat} {a : Act} {w : World} (order : List (Nat × Bool)) (tail : List Nat) (S : World → Prop) (hm : P.follows .mixedOrders = true) (hc : okTillY ops order tail = true) (hS : S w.drew)
    (h : ∀ OPS, Hid (OPS = ops) → walkX P OPS (NoPanic Q) tail order S a w.drew) : (Code.region id ops true).wp P Q a w := by
  unfold okTillY at hc
  simp only [Bool.and_eq_true, decide_eq_true_iff] at hc
  refine wp_region_noPanic (wp_region_any hm (wpTill_any _ _ _ _ (walkX_tillY (fun _ _ _ _ _ h => h) hc.1 order S ops.size _ _ _ ?_ hc.2.2 hc.2.1 hS (h _ (Lib.hid rfl)))))
  intro j o _ hl
  simp only [Array.getD_eq_getD_getElem?, Array.getElem?_replicate] at hl
  split at hl <;> simp at hl
end
end Go.Proofs.Ytdoamelhclnphaa
