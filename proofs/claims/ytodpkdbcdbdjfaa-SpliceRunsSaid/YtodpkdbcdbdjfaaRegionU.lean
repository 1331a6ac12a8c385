/-
  A region that draws its order, walked as a tree: as RegionT, and where two operations may come up (a call, an alloc) both ways are walked.
-/
import Derived.Test.YtodpkdbcdbdjfaaRegionT
namespace Go.Proofs.Ytodpkdbcdbdjfaa
open Go.RowKit

inductive OT where
  | nil : OT
  | take (i : Nat) (r : OT) : OT
  | one (i : Nat) (r : OT) : OT
  | two (i j : Nat) (r q : OT) : OT
def OT.height : OT → Nat
  | .nil => 0
  | .take _ r => r.height + 1
  | .one _ r => r.height + 1
  | .two _ _ r q => max r.height q.height + 1
section
variable {P : Program} {ops : Array Oper} {Q : Exit → Act → World → Prop}
def chkTree (ops : Array Oper) : OT → Array Bool → Bool
  | .nil, listed => (Region.ready .any ops listed).isEmpty
  | .take i r, listed => ownOk ops listed i && chkTree ops r (listed.setIfInBounds i true)
  | .one i r, listed => (Region.ready .any ops listed == [i]) && chkTree ops r (listed.setIfInBounds i true)
  | .two i j r q, listed => (Region.ready .any ops listed == [i, j]) && (chkTree ops r (listed.setIfInBounds i true) && chkTree ops q (listed.setIfInBounds j true))
def okTree (ops : Array Oper) (t : OT) : Bool :=
  (Region.noSelect ops && (looksOk ops && apartB ops.toList)) && (decide (t.height ≤ ops.size) && chkTree ops t (Array.replicate ops.size false))
def comesT (P : Program) (ops : Array Oper) (Q : Exit → Act → World → Prop) (i : Nat) (S : World → Prop) (W : (World → Prop) → Act → World → Prop) (a : Act) (w : World) : Prop :=
  ∃ o, ops[i]? = some o ∧ ∀ K : Act → World → Prop, Hid (∀ (S' : World → Prop) a' w', (∀ x, S' x → S x) → S' w' → W S' a' w' → K a' w') →
      if Region.wanted o (yielded ops a.tmps) = true then Oper.wp P o a w K Q else K (a.put o.dst undef) w
def walkT (P : Program) (ops : Array Oper) (Q : Exit → Act → World → Prop) : OT → (World → Prop) → Act → World → Prop
  | .nil, _, a, w => Q .normal a w
  | .take i r, S, a, w => ∃ o v, ops[i]? = some o ∧ YieldsIf P ops S o v a ∧ walkT P ops Q r S (a.put o.dst v) w
  | .one i r, S, a, w => comesT P ops Q i S (walkT P ops Q r) a w
  | .two i j r q, S, a, w => comesT P ops Q i S (walkT P ops Q r) a w ∧ comesT P ops Q j S (walkT P ops Q q) a w
theorem walkT_any (hQ : ∀ c a d v w, Q (.panic c) (Act.put a d v) w → Q (.panic c) a w) (hs : Region.noSelect ops = true ∧ looksOk ops = true ∧ apartB ops.toList = true) :
    ∀ (t : OT) (S : World → Prop) (fuel : Nat) (listed : Array Bool) (a : Act) (w : World), chkTree ops t listed = true → t.height ≤ fuel → S w → walkT P ops Q t S a w → wpAnyH P .any ops Q S fuel listed a w
  | .nil, S, fuel, listed, a, w, hc, _, _, h => wpAnyH_done (by simpa [chkTree] using hc) h fuel
  | .take i r, S, fuel, listed, a, w, hc, hl, hS, h => by
    obtain ⟨o, v, ho, hy, h⟩ := h
    simp only [chkTree, Bool.and_eq_true] at hc
    obtain ⟨fuel, rfl⟩ : ∃ f, fuel = f + 1 := ⟨fuel - 1, by simp [OT.height] at hl; omega⟩
    have hw := ownOk_spec ho hc.1
    exact wpAnyH_take ho hs.1 (free_static hs.2.1 hs.2.2 ho hw.2) hw.1 (fun c a w => hQ c a o.dst v w) hy hS (walkT_any hQ hs r S fuel _ _ _ hc.2 (by simp [OT.height] at hl; omega) hS h)
  | .one i r, S, fuel, listed, a, w, hc, hl, hS, h => by
    obtain ⟨o, ho, h⟩ := h
    simp only [chkTree, Bool.and_eq_true, beq_iff_eq] at hc
    obtain ⟨fuel, rfl⟩ : ∃ f, fuel = f + 1 := ⟨fuel - 1, by simp [OT.height] at hl; omega⟩
    refine wpAnyH_ready hc.1 (by simp) (AllReadyH.cons ho (fun K hK => ?_) AllReadyH.nil)
    exact h K (Lib.hid fun S' a' w' hSS hS' hw => hK.out a' w' (hSS _ hS') fun _ => wpAnyH_strengthen hSS _ _ _ _ (walkT_any hQ hs r S' fuel _ _ _ hc.2 (by simp [OT.height] at hl; omega) hS' hw))
  | .two i j r q, S, fuel, listed, a, w, hc, hl, hS, h => by
    obtain ⟨⟨o, ho, h⟩, ⟨o', ho', h'⟩⟩ := h
    simp only [chkTree, Bool.and_eq_true, beq_iff_eq] at hc
    obtain ⟨fuel, rfl⟩ : ∃ f, fuel = f + 1 := ⟨fuel - 1, by simp [OT.height] at hl; omega⟩
    refine wpAnyH_ready hc.1 (by simp) (AllReadyH.cons ho (fun K hK => ?_) (AllReadyH.cons ho' (fun K hK => ?_) AllReadyH.nil))
    · exact h K (Lib.hid fun S' a' w' hSS hS' hw => hK.out a' w' (hSS _ hS') fun _ => wpAnyH_strengthen hSS _ _ _ _ (walkT_any hQ hs r S' fuel _ _ _ hc.2.1 (by simp [OT.height] at hl; omega) hS' hw))
    · exact h' K (Lib.hid fun S' a' w' hSS hS' hw => hK.out a' w' (hSS _ hS') fun _ => wpAnyH_strengthen hSS _ _ _ _ (walkT_any hQ hs q S' fuel _ _ _ hc.2.2 (by simp [OT.height] at hl; omega) hS' hw))
theorem walkT_take {i : Nat} {r : OT} {S : World → Prop} {a : Act} {w : World} {o : Oper} {v : Value} (ho : ops[i]? = some o) (hy : YieldsIf P ops S o v a) (h : walkT P ops Q r S (a.put o.dst v) w) : walkT P ops Q (.take i r) S a w := ⟨o, v, ho, hy, h⟩
theorem walkT_call {i : Nat} {r : OT} {S : World → Prop} {a : Act} {w : World} {o : Oper} (ho : ops[i]? = some o) (h : ∀ K : Act → World → Prop, Hid (∀ (S' : World → Prop) a' w', (∀ x, S' x → S x) → S' w' → walkT P ops Q r S' a' w' → K a' w') →
      if Region.wanted o (yielded ops a.tmps) = true then Oper.wp P o a w K Q else K (a.put o.dst undef) w) : walkT P ops Q (.one i r) S a w := ⟨o, ho, h⟩
theorem walkT_two {i j : Nat} {r q : OT} {S : World → Prop} {a : Act} {w : World} (h : walkT P ops Q (.one i r) S a w) (k : walkT P ops Q (.one j q) S a w) : walkT P ops Q (.two i j r q) S a w := ⟨h, k⟩
theorem walkT_done {S : World → Prop} {a : Act} {w : World} (h : Q .normal a w) : walkT P ops (NoPanic Q) .nil S a w := NoPanic.normal h
theorem wp_region_tree {id : Nat} {a : Act} {w : World} (t : OT) (S : World → Prop) (hm : P.follows .mixedOrders = true) (hc : okTree ops t = true) (hS : S w.drew)
    (h : ∀ OPS, Hid (OPS = ops) → walkT P OPS (NoPanic Q) t S a w.drew) : (Code.region id ops true).wp P Q a w := by
  unfold okTree at hc
  simp only [Bool.and_eq_true, decide_eq_true_iff] at hc
  refine wp_region_noPanic (wp_region_held_drew hm hS fun _ => ?_)
  exact walkT_any (fun _ _ _ _ _ h => h) hc.1 t S ops.size _ _ _ hc.2.2 hc.2.1 hS (h _ (Lib.hid rfl))
end
end Go.Proofs.Ytodpkdbcdbdjfaa
