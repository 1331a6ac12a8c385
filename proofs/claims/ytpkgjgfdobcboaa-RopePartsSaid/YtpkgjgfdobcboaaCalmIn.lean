/-
  A region that draws its order, whose operations only read, INSIDE A ROUND of a range over a function: walked once, in the order of the text. (The kit's quiet regions stand outside rounds.)
-/
import Derived.Test.YtpkgjgfdobcboaaBase
import Derived.OrdersIn
import Derived.Deep.QuietTactic
import Derived.BigQuiet
import Derived.OwnWalkIn
namespace Go.Proofs.Ytpkgjgfdobcboaa

/-- An operation that calls nothing. -/
def Calm (P : Program) (o : Oper) : Prop := (∀ w ρ, o.about P w ρ = none) ∧ (∀ c, o.op ≠ .defer c) ∧ ∀ ρ w n w', (execOp ρ o).run P w = .ok n w' → ∃ v, n = .value v
theorem val_run {P : Program} {s : Sem Value} {w w' : World} {n : Next} (h : (do let x ← s; pure (Next.value x) : Sem Next).run P w = .ok n w') : ∃ v, n = .value v := by
  rw [Sem.run_bind] at h
  cases hs : s.run P w with
  | ok x w1 =>
    rw [hs] at h
    simp [Result.andThen] at h
    exact ⟨_, h.1.symm⟩
  | halt x w1 =>
    rw [hs] at h
    simp [Result.andThen] at h
/-- The forms that this text is for. -/
def calmB (o : Oper) : Bool := match o.op with
  | .move _ | .assign _ | .load _ _ | .binOp _ _ _ _ _ | .unOp _ _ _ | .convert _ _ _ | .fieldAddr _ _ _ | .indexAddr _ _ _ | .pick _ _ _ | .slice _ _ _ _ _ => true
  | .call c => match c.callee with | .builtin .len => true | _ => false
  | _ => false
theorem calm_of {P : Program} {o : Oper} (h : calmB o = true) : Calm P o := by
  unfold calmB at h
  refine ⟨fun w ρ => ?_, fun c e => by rw [e] at h; simp at h, fun ρ w n w' hr => ?_⟩
  · unfold Oper.about
    cases ho : o.op <;> rw [ho] at h <;> (try rfl) <;> (try (simp at h; done))
    rename_i c
    try simp only at h
    cases hc : c.callee <;> rw [hc] at h <;> (try (simp at h; done))
    rename_i b
    cases b <;> (try (simp at h; done))
    simp [resolve, hc, Target.leads]
  · unfold execOp at hr
    cases ho : o.op <;> rw [ho] at h hr <;> (try (simp at h; done)) <;> dsimp only at hr <;> first
      | exact val_run hr
      | (simp at hr; exact ⟨_, hr.1.symm⟩)
      | skip
    · rw [Sem.run_bind] at hr
      generalize (asBool _ : Sem Bool).run P w = r at hr
      cases r with
      | ok x w1 =>
        simp [Result.andThen] at hr
        exact ⟨_, hr.1.symm⟩
      | halt x w1 => simp [Result.andThen] at hr
    · rename_i c
      try simp only at h
      cases hc : c.callee <;> rw [hc] at h <;> (try (simp at h; done))
      rename_i b
      cases b <;> (try (simp at h; done))
      simp [resolve, hc, invoke, builtin] at hr
      generalize (Builtin.len_ c.argTypes o.type (Array.map ρ c.args) : Sem Value).run P w = r at hr
      cases r with
      | ok x w1 =>
        simp [Result.andThen] at hr
        exact ⟨_, hr.1.symm⟩
      | halt x w1 => simp [Result.andThen] at hr

section
variable {F : Fence} {n : Nat} {P : Program} {ops : Array Oper} {Q : Exit → Act → World → Prop} {md : Region.Mode}
/-- What is asked of the exits: the normal one alone. -/
def OnlyN (Q : Exit → Act → World → Prop) : Exit → Act → World → Prop := fun e a w => e = .normal ∧ Q .normal a w
theorem wpOpIn_calm {i : Nat} (hc : ∀ o, ops[i]? = some o → Calm P o) {K K' : Act → World → Prop} (hK : ∀ a w, K a w → K' a w) {a : Act} {w : World} (h : wpOp P ops (OnlyN Q) i K a w) : wpOpIn F n P ops Q i K' a w := by
  unfold wpOp at h
  unfold wpOpIn
  cases ho : ops[i]? with
  | none => rw [ho] at h; exact hK _ _ h
  | some o =>
    rw [ho] at h
    obtain ⟨h1, h2, h3⟩ := hc o ho
    dsimp only at h ⊢
    split at h
    · rename_i hw
      rw [if_pos hw]
      rcases h with h | ⟨_, h⟩
      · unfold Oper.wp at h
        unfold Oper.wpIn
        refine ⟨fun f hf => (by rw [h1] at hf; cases hf), ?_⟩
        rw [Oper.semAt_plain F _ _ h2]
        cases hr : (execOp a.eval o).run P w with
        | ok x w' =>
          obtain ⟨v, rfl⟩ := h3 _ _ _ _ hr
          rw [hr] at h
          rw [Oper.uponIn_value]
          rw [Oper.upon_value] at h
          exact hK _ _ h
        | halt x w' =>
          rw [hr] at h
          cases x <;> simp only [Oper.upon] at h <;> exact absurd h.1 (by simp)
      · obtain ⟨_, _, e, _⟩ := h
        cases e
    · rename_i hw
      rw [if_neg hw]
      exact ⟨fun f hf => (by rw [h1] at hf; cases hf), hK _ _ h⟩
theorem wpAnyIn_calm (hc : ∀ (i : Nat) (o : Oper), ops[i]? = some o → Calm P o) : ∀ (fuel : Nat) (listed : Array Bool) (a : Act) (w : World), wpAny P md ops (OnlyN Q) fuel listed a w → wpAnyIn F n P md ops Q fuel listed a w
  | 0, _, _, _, h => ⟨h.1, h.2.2⟩
  | fuel + 1, _, _, _, h => ⟨fun h0 => (h.1 h0).2, fun i hi => wpOpIn_calm (hc i) (fun a w => wpAnyIn_calm hc fuel _ a w) (h.2 i hi)⟩
/-- **One walk in the order of the text serves every order, in any fence, in a round too**: a region whose operations only read and call nothing. -/
theorem wpIn_region_calm {id : Nat} {a : Act} {w : World} {l : List Oper} (hm : P.follows .mixedOrders = true) (hB : Region.lexB .any l.toArray = true) (hc : l.all calmB = true)
    (h : wpQuiet P l.toArray (fun w' => ∃ n, w' = w.drewN n) (fun a' => ∀ w', (∃ n, w' = w.drewN n) → Q .normal a' w') l a) : (Code.region id l.toArray true).wpIn F n P Q a w := by
  simp only [Region.lexB, Bool.and_eq_true] at hB
  refine wpIn_region_any hm (wpAnyIn_calm (fun i o ho => calm_of ?_) _ _ _ _ ?_)
  · rw [List.getElem?_toArray] at ho
    exact List.all_eq_true.1 hc o (List.mem_of_getElem? ho)
  · refine wpAny_of_quiet (C := fun w' => ∃ n, w' = w.drewN n) (Q := fun a' => ∀ w', (∃ n, w' = w.drewN n) → Q .normal a' w') (fun a' w' hw' h => ⟨rfl, h w' hw'⟩) _ _ _ _ ⟨1, rfl⟩ ?_
    have := wpAnyQ_lex (P := P) (C := fun w' => ∃ n, w' = w.drewN n) (md := .any) hB.1 l 0 (Array.replicate l.length false) a (by simp) (by simpa using hB.2) h
    simpa using this
end
end Go.Proofs.Ytpkgjgfdobcboaa
