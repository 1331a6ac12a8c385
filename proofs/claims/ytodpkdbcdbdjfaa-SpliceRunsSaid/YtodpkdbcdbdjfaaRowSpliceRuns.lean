/-
  The law SpliceRuns: for every input it returns true, and each argument reads behind the call as it read before. No condition.
-/
import Derived.Test.YtodpkdbcdbdjfaaRows
import Derived.Test.YtodpkdbcdbdjfaaSpliceRunsW
import Derived.ProofKit
import Derived.OpenShut
import Derived.ShutString
import Derived.ChangeOld
namespace Go.Proofs.Ytodpkdbcdbdjfaa.spliceRuns
open Go.ChangeShapes Go.WideShapes Go.ChangeAt Go.RowKit
open Go.ChangeMaps (open_string shut_string)
set_option linter.unusedVariables false

theorem own : ownKnob Try.prog.godebug = none := by kernel_rfl
theorem laidOut : laidOutB Try.prog = true := by kernel_rfl

set_option maxRecDepth 100000 in
theorem lifted (os : Os) (started : os.Started) (H : Type) (enc : TypeId × Value → H) :
    ReturnsInHanded {} Try.checked os 9 .any (Rows.spliceRunsSpec.pre6 enc Try.prog Try.f9 Rows.spliceRunsRow.domain false) (Rows.spliceRunsSpec.post enc Try.prog Try.f9 false true false false) := by
  refine returnsInHanded_of_change (C := Try.checked) own started (by kernel_rfl) Try.func9
    (ChangeSpec.witness6 (enc := enc) (C := Try.checked) false ⟨#[], #[.int .u8 0, .slice none 0 0, .slice none 0 0, .slice none 0 0, .slice none 0 0], []⟩ 8 (by kernel_rfl) (by kernel_rfl) (by kernel_rfl) (by kernel_rfl)) ?_
  intro W base args ds gs before hval0 hW hcnd _
  have hval : ∀ (j : Nat) t v, Try.f9.params[j]? = some t → args[j]? = some v → Value.okWide Try.prog W .any base t v := hval0
  have hW' := hW
  obtain ⟨p, q, hA0, hV, rfl, hfz, hnd⟩ := hW
  have hA : DataW.TrodAll enc Try.prog W 0 (fun _ => true) true Try.f9.params.toList args.toList ds p := hA0
  rw [Try.params9] at hA hval
  obtain ⟨v0, vs0, d0, ds0, p0, q0, hargs, rfl, rfl, h0, r0⟩ := trodAll_cons hA
  obtain ⟨v1, vs1, d1, ds1, p1, q1, rfl, rfl, rfl, h1, r1⟩ := trodAll_cons r0
  obtain ⟨v2, vs2, d2, ds2, p2, q2, rfl, rfl, rfl, h2, r2⟩ := trodAll_cons r1
  obtain ⟨v3, vs3, d3, ds3, p3, q3, rfl, rfl, rfl, h3, r3⟩ := trodAll_cons r2
  obtain ⟨v4, vs4, d4, ds4, p4, q4, rfl, rfl, rfl, h4, r4⟩ := trodAll_cons r3
  obtain ⟨rfl, rfl, rfl⟩ := trodAll_nil r4
  obtain rfl : args = #[v0, v1, v2, v3, v4] := by cases args; simp_all
  obtain ⟨rfl, rfl⟩ := trodVars_none hV
  obtain ⟨a0, rfl, rfl, rfl, w0⟩ := open_int Try.underlying5 (hval 0 5 v0 rfl rfl) h0
  obtain ⟨a1, len1, cap1, rfl⟩ := okWide_slice Try.underlying22 (hval 1 22 v1 rfl rfl)
  have k1 := h1
  have lt1 : ∀ x ∈ p1, x.block < W.heap.size := by obtain ⟨m, hm⟩ := k1; exact DataW.trod_lt m _ _ _ hm
  obtain ⟨fuel1, hf1⟩ := h1
  have c1 := bytes_of (a := a1) (len := len1) (cap := cap1) (by exact hf1)
  obtain ⟨a2, len2, cap2, rfl⟩ := okWide_slice Try.underlying22 (hval 2 22 v2 rfl rfl)
  have k2 := h2
  have lt2 : ∀ x ∈ p2, x.block < W.heap.size := by obtain ⟨m, hm⟩ := k2; exact DataW.trod_lt m _ _ _ hm
  obtain ⟨fuel2, hf2⟩ := h2
  have c2 := bytes_of (a := a2) (len := len2) (cap := cap2) (by exact hf2)
  obtain ⟨a3, len3, cap3, rfl⟩ := okWide_slice Try.underlying84 (hval 3 84 v3 rfl rfl)
  have k3 := h3
  have lt3 : ∀ x ∈ p3, x.block < W.heap.size := by obtain ⟨m, hm⟩ := k3; exact DataW.trod_lt m _ _ _ hm
  obtain ⟨fuel3, hf3⟩ := h3
  have c3 := bools_of (a := a3) (len := len3) (cap := cap3) (by exact hf3)
  obtain ⟨a4, len4, cap4, rfl⟩ := okWide_slice Try.underlying22 (hval 4 22 v4 rfl rfl)
  have k4 := h4
  have lt4 : ∀ x ∈ p4, x.block < W.heap.size := by obtain ⟨m, hm⟩ := k4; exact DataW.trod_lt m _ _ _ hm
  obtain ⟨fuel4, hf4⟩ := h4
  have c4 := bytes_of (a := a4) (len := len4) (cap := cap4) (by exact hf4)
  clear hA0 hval0
  refine Calls.mono (spliceRuns_walk a0 W w0 c1 c2 c3 c4) fun e W' ⟨he, hfr⟩ => ?_
  have bel := hfr.to_below
  subst he
  exact ⟨_, rfl, _, _, _, [], _, [], hW', trodAll_mk1 (shut_bool Try.underlying4 _), (trodAll_cons_mk (shut_int Try.underlying5 w0) (trodAll_cons_mk (Below.trod laidOut (by kernel_rfl) (of_decide_eq_true (by kernel_rfl)) k1 bel lt1) (trodAll_cons_mk (Below.trod laidOut (by kernel_rfl) (of_decide_eq_true (by kernel_rfl)) k2 bel lt2) (trodAll_cons_mk (Below.trod laidOut (by kernel_rfl) (of_decide_eq_true (by kernel_rfl)) k3 bel lt3) (trodAll_cons_mk (Below.trod laidOut (by kernel_rfl) (of_decide_eq_true (by kernel_rfl)) k4 bel lt4) trodAll_mk0))))), rfl, bel.frame _, fun h => by cases h⟩

theorem band {x y : Bool} (h : x = true) (k : y = true) : (x && y) = true := by rw [h, k]; rfl
theorem cut {x y : Bool} (h : (x && y) = true) : x = true ∧ y = true := by simpa using h
theorem fact1 : ((Rows.spliceRunsRow).wf (OpenSpec.ofChange Rows.spliceRunsSpec)) = true := by kernel_rfl
theorem fact2 : (laidOutB Try.pinned.checked.prog) = true := by kernel_rfl
theorem fact3 : (mapsRowed Try.pinned.checked.prog) = true := by kernel_rfl
theorem fact4 : (Try.f9.params.all (Try.pinned.checked.prog.readableRec ·)) = true := by kernel_rfl
theorem fact5 : (namedTie Try.pinned.checked.prog Rows.spliceRunsRow.named Rows.spliceRunsSpec.vars) = true := by kernel_rfl
theorem fact6 : ((Rows.spliceRunsRow.stops == [])) = true := by kernel_rfl
theorem fact7 : ((Try.pinned.checked.prog.stops == [])) = true := by kernel_rfl
theorem fact8 : ((Rows.spliceRunsRow.knobs == [])) = true := by kernel_rfl
theorem fact9 : ((Try.pinned.checked.prog.stopKnobs == [])) = true := by kernel_rfl
theorem fact10 : ((Rows.spliceRunsRow.inPlace == Try.pinned.checked.prog.inPlace 9)) = true := by kernel_rfl
theorem fact11 : ((Rows.spliceRunsRow.unfollowed == Try.pinned.checked.prog.unfollowed 9)) = true := by kernel_rfl
theorem fact12 : ((Rows.spliceRunsRow.recurses == Try.pinned.checked.prog.recurses 9)) = true := by kernel_rfl
theorem fact13 : ((Rows.spliceRunsRow.named == Try.pinned.checked.prog.varsNamed 9)) = true := by kernel_rfl
theorem fact14 : ((Rows.spliceRunsRow.maps == (Try.f9.params.toList ++ Rows.spliceRunsSpec.plain.varTypes Try.pinned.checked.prog).any (Try.pinned.checked.prog.mapsRec ·))) = true := by kernel_rfl
theorem fact15 : ((Rows.spliceRunsRow.ifaces == (Try.f9.params.toList ++ Rows.spliceRunsSpec.plain.varTypes Try.pinned.checked.prog).any (Try.pinned.checked.prog.ifacesRec ·))) = true := by kernel_rfl
theorem fact16 : ((Rows.spliceRunsRow.mapsOut == Try.pinned.checked.prog.mapsAmong Try.f9.resultTypes.toList)) = true := by kernel_rfl
theorem fact17 : ((Rows.spliceRunsRow.loops == (Try.f9.params.toList ++ Rows.spliceRunsSpec.plain.varTypes Try.pinned.checked.prog).any (Try.pinned.checked.prog.loopsFrom ·))) = true := by kernel_rfl
theorem fact18 : ((Rows.spliceRunsRow.wideKeys == (Try.f9.params.toList ++ Rows.spliceRunsSpec.plain.varTypes Try.pinned.checked.prog ++ Try.f9.resultTypes.toList).any (Try.pinned.checked.prog.wideKeysFrom ·))) = true := by kernel_rfl
theorem fact19 : (Rows.spliceRunsSpec.vars.all (Try.pinned.checked.prog.varReadable ·)) = true := by kernel_rfl
theorem fact20 : (Try.f9.resultTypes.all (fun t => Try.pinned.checked.prog.readableRec t && decide (t < Try.pinned.checked.prog.types.size))) = true := by kernel_rfl
theorem fact21 : ((Rows.spliceRunsRow.ifacesOut == Try.f9.resultTypes.toList.any (Try.pinned.checked.prog.ifacesRec ·))) = true := by kernel_rfl
theorem fact22 : ((Rows.spliceRunsRow.loopsOut == Try.f9.resultTypes.toList.any (Try.pinned.checked.prog.loopsFrom ·))) = true := by kernel_rfl
theorem fact24 : (Rows.spliceRunsRow.shortTexts.isNone) = true := by kernel_rfl
theorem fact25 : (Try.pinned.checked.prog.stopsHeard) = true := by kernel_rfl
theorem fact29 : ((Rows.spliceRunsRow.kinds == (if Rows.spliceRunsRow.domain.isEmpty then [] else Try.f9.params.toList.map fun t => match Try.pinned.checked.prog.underlying t with | some (.int k) => some k | _ => none))) = true := by kernel_rfl
theorem fact30 : ((Rows.spliceRunsRow.pinned == Rows.spliceRunsRow.pinnedBy)) = true := by kernel_rfl
theorem fact31 : ((Rows.spliceRunsRow.veiled == (Try.f9.params.toList ++ Rows.spliceRunsSpec.plain.varTypes Try.pinned.checked.prog ++ Try.f9.resultTypes.toList).any (Try.pinned.checked.prog.veiledRec ·))) = true := by kernel_rfl
theorem fact32 : (Rows.spliceRunsRow.veiledFits Try.pinned.checked.prog Try.f9.params.toList (Try.f9.params.toList ++ Rows.spliceRunsSpec.plain.varTypes Try.pinned.checked.prog ++ Try.f9.resultTypes.toList)) = true := by kernel_rfl
theorem facts0 : ((Rows.spliceRunsRow.plainKeys == Try.pinned.checked.prog.plainKeys) && Try.pinned.checked.prog.mayEnter && (Rows.spliceRunsRow.lifted == Try.pinned.checked.prog.liftsFinal) && (Try.pinned.checked.prog.make == some Rows.spliceRunsRow.make)) = true := by kernel_rfl
set_option maxRecDepth 100000 in
theorem facts : joinedFacts Try.pinned.checked.prog 9 Try.f9 Rows.spliceRunsSpec Rows.spliceRunsRow = true := by
  unfold joinedFacts
  refine band ?_ fact32
  refine band ?_ fact31
  refine band ?_ fact30
  refine band ?_ fact29
  refine band ?_ (cut facts0).2
  refine band ?_ (cut (cut facts0).1).2
  refine band ?_ (cut (cut (cut facts0).1).1).2
  refine band ?_ fact25
  refine band ?_ fact24
  refine band ?_ (cut (cut (cut facts0).1).1).1
  refine band ?_ fact22
  refine band ?_ fact21
  refine band ?_ fact20
  refine band ?_ fact19
  refine band ?_ fact18
  refine band ?_ fact17
  refine band ?_ fact16
  refine band ?_ fact15
  refine band ?_ fact14
  refine band ?_ fact13
  refine band ?_ fact12
  refine band ?_ fact11
  refine band ?_ fact10
  refine band ?_ fact9
  refine band ?_ fact8
  refine band ?_ fact7
  refine band ?_ fact6
  refine band ?_ fact5
  refine band ?_ fact4
  refine band ?_ fact3
  refine band ?_ fact2
  exact fact1
theorem named0 : Try.pinned.checked.prog.funcNamed Rows.spliceRunsRow.func = some 9 := by kernel_rfl
theorem over : Rows.spliceRunsRow.holds Try.pinned (OpenSpec.ofChange Rows.spliceRunsSpec) :=
  OpenClaim.holds_of_wide 9 Try.f9 rfl rfl rfl rfl rfl rfl rfl ⟨rfl, rfl, rfl, rfl, rfl⟩ rfl rfl rfl rfl rfl named0 Try.func9 facts
    (of_decide_eq_true (by kernel_rfl)) (by unfold Func.isWrapper; first | (rw [if_pos (by decide +kernel)]; kernel_rfl) | (rw [if_neg (by decide +kernel)]; exact ⟨rfl, rfl⟩))
    (fun os started H enc _ => lifted os started H enc)

theorem proved : Rows.SpliceRunsSaid := over
#print axioms proved
end Go.Proofs.Ytodpkdbcdbdjfaa.spliceRuns
