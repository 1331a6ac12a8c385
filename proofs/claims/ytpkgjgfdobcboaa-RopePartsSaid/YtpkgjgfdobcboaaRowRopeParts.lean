/-
  The law RopeParts: for every input it returns true, and each argument reads behind the call as it read before. No condition.
-/
import Derived.Test.YtpkgjgfdobcboaaRows
import Derived.Test.YtpkgjgfdobcboaaRopeParts
import Derived.ProofKit
import Derived.OpenShut
import Derived.ShutString
import Derived.ChangeOld
namespace Go.Proofs.Ytpkgjgfdobcboaa.ropeParts
open Go.ChangeShapes Go.WideShapes Go.ChangeAt Go.RowKit
open Go.ChangeMaps (open_string shut_string)
set_option linter.unusedVariables false

theorem own : ownKnob Try.prog.godebug = none := by kernel_rfl
theorem laidOut : laidOutB Try.prog = true := by kernel_rfl

set_option maxRecDepth 100000 in
theorem lifted (os : Os) (started : os.Started) (H : Type) (enc : TypeId × Value → H) :
    ReturnsInHanded {} Try.checked os 9 .any (Rows.ropePartsSpec.pre6 enc Try.prog Try.f9 Rows.ropePartsRow.domain false) (Rows.ropePartsSpec.post enc Try.prog Try.f9 false true false false) := by
  refine returnsInHanded_of_change (C := Try.checked) own started (by kernel_rfl) Try.func9
    (ChangeSpec.witness6 (enc := enc) (C := Try.checked) false ⟨#[], #[.slice none 0 0, .int .i64 0], []⟩ 8 (by kernel_rfl) (by kernel_rfl) (by kernel_rfl) (by kernel_rfl)) ?_
  intro W base args ds gs before hval0 hW hcnd _
  have hval : ∀ (j : Nat) t v, Try.f9.params[j]? = some t → args[j]? = some v → Value.okWide Try.prog W .any base t v := hval0
  have hW' := hW
  obtain ⟨p, q, hA0, hV, rfl, hfz, hnd⟩ := hW
  have hA : DataW.TrodAll enc Try.prog W 0 (fun _ => true) true Try.f9.params.toList args.toList ds p := hA0
  rw [Try.params9] at hA hval
  obtain ⟨v0, vs0, d0, ds0, p0, q0, hargs, rfl, rfl, h0, r0⟩ := trodAll_cons hA
  obtain ⟨v1, vs1, d1, ds1, p1, q1, rfl, rfl, rfl, h1, r1⟩ := trodAll_cons r0
  obtain ⟨rfl, rfl, rfl⟩ := trodAll_nil r1
  obtain rfl : args = #[v0, v1] := by cases args; simp_all
  obtain ⟨rfl, rfl⟩ := trodVars_none hV
  obtain ⟨a0, len0, cap0, rfl⟩ := okWide_slice Try.underlying61 (hval 0 61 v0 rfl rfl)
  have k0 := h0
  have lt0 : ∀ x ∈ p0, x.block < W.heap.size := by obtain ⟨m, hm⟩ := k0; exact DataW.trod_lt m _ _ _ hm
  obtain ⟨fuel0, hf0⟩ := h0
  have c0 := strs_of (a := a0) (len := len0) (cap := cap0) (by exact hf0)
  obtain ⟨a1, rfl, rfl, rfl, w1⟩ := open_int Try.underlying3 (hval 1 3 v1 rfl rfl) h1
  clear hA0 hval0
  refine Calls.mono (ropeParts_walk c0.choose_spec a1) fun e W' ⟨he, hfr⟩ => ?_
  have bel := hfr.to_below
  subst he
  exact ⟨_, rfl, _, _, _, [], _, [], hW', trodAll_mk1 (shut_bool Try.underlying4 _), (trodAll_cons_mk (Below.trod laidOut (by kernel_rfl) (of_decide_eq_true (by kernel_rfl)) k0 bel lt0) (trodAll_cons_mk (shut_int Try.underlying3 w1) trodAll_mk0)), rfl, bel.frame _, fun h => by cases h⟩

theorem band {x y : Bool} (h : x = true) (k : y = true) : (x && y) = true := by rw [h, k]; rfl
theorem cut {x y : Bool} (h : (x && y) = true) : x = true ∧ y = true := by simpa using h
theorem fact1 : ((Rows.ropePartsRow).wf (OpenSpec.ofChange Rows.ropePartsSpec)) = true := by kernel_rfl
theorem fact2 : (laidOutB Try.pinned.checked.prog) = true := by kernel_rfl
theorem fact3 : (mapsRowed Try.pinned.checked.prog) = true := by kernel_rfl
theorem fact4 : (Try.f9.params.all (Try.pinned.checked.prog.readableRec ·)) = true := by kernel_rfl
theorem fact5 : (namedTie Try.pinned.checked.prog Rows.ropePartsRow.named Rows.ropePartsSpec.vars) = true := by kernel_rfl
theorem fact6 : ((Rows.ropePartsRow.stops == [])) = true := by kernel_rfl
theorem fact7 : ((Try.pinned.checked.prog.stops == [])) = true := by kernel_rfl
theorem fact8 : ((Rows.ropePartsRow.knobs == [])) = true := by kernel_rfl
theorem fact9 : ((Try.pinned.checked.prog.stopKnobs == [])) = true := by kernel_rfl
theorem fact10 : ((Rows.ropePartsRow.inPlace == Try.pinned.checked.prog.inPlace 9)) = true := by kernel_rfl
theorem fact11 : ((Rows.ropePartsRow.unfollowed == Try.pinned.checked.prog.unfollowed 9)) = true := by kernel_rfl
theorem fact12 : ((Rows.ropePartsRow.recurses == Try.pinned.checked.prog.recurses 9)) = true := by kernel_rfl
theorem fact13 : ((Rows.ropePartsRow.named == Try.pinned.checked.prog.varsNamed 9)) = true := by kernel_rfl
theorem fact14 : ((Rows.ropePartsRow.maps == (Try.f9.params.toList ++ Rows.ropePartsSpec.plain.varTypes Try.pinned.checked.prog).any (Try.pinned.checked.prog.mapsRec ·))) = true := by kernel_rfl
theorem fact15 : ((Rows.ropePartsRow.ifaces == (Try.f9.params.toList ++ Rows.ropePartsSpec.plain.varTypes Try.pinned.checked.prog).any (Try.pinned.checked.prog.ifacesRec ·))) = true := by kernel_rfl
theorem fact16 : ((Rows.ropePartsRow.mapsOut == Try.pinned.checked.prog.mapsAmong Try.f9.resultTypes.toList)) = true := by kernel_rfl
theorem fact17 : ((Rows.ropePartsRow.loops == (Try.f9.params.toList ++ Rows.ropePartsSpec.plain.varTypes Try.pinned.checked.prog).any (Try.pinned.checked.prog.loopsFrom ·))) = true := by kernel_rfl
theorem fact18 : ((Rows.ropePartsRow.wideKeys == (Try.f9.params.toList ++ Rows.ropePartsSpec.plain.varTypes Try.pinned.checked.prog ++ Try.f9.resultTypes.toList).any (Try.pinned.checked.prog.wideKeysFrom ·))) = true := by kernel_rfl
theorem fact19 : (Rows.ropePartsSpec.vars.all (Try.pinned.checked.prog.varReadable ·)) = true := by kernel_rfl
theorem fact20 : (Try.f9.resultTypes.all (fun t => Try.pinned.checked.prog.readableRec t && decide (t < Try.pinned.checked.prog.types.size))) = true := by kernel_rfl
theorem fact21 : ((Rows.ropePartsRow.ifacesOut == Try.f9.resultTypes.toList.any (Try.pinned.checked.prog.ifacesRec ·))) = true := by kernel_rfl
theorem fact22 : ((Rows.ropePartsRow.loopsOut == Try.f9.resultTypes.toList.any (Try.pinned.checked.prog.loopsFrom ·))) = true := by kernel_rfl
theorem fact24 : (Rows.ropePartsRow.shortTexts.isNone) = true := by kernel_rfl
theorem fact25 : (Try.pinned.checked.prog.stopsHeard) = true := by kernel_rfl
theorem fact29 : ((Rows.ropePartsRow.kinds == (if Rows.ropePartsRow.domain.isEmpty then [] else Try.f9.params.toList.map fun t => match Try.pinned.checked.prog.underlying t with | some (.int k) => some k | _ => none))) = true := by kernel_rfl
theorem fact30 : ((Rows.ropePartsRow.pinned == Rows.ropePartsRow.pinnedBy)) = true := by kernel_rfl
theorem fact31 : ((Rows.ropePartsRow.veiled == (Try.f9.params.toList ++ Rows.ropePartsSpec.plain.varTypes Try.pinned.checked.prog ++ Try.f9.resultTypes.toList).any (Try.pinned.checked.prog.veiledRec ·))) = true := by kernel_rfl
theorem fact32 : (Rows.ropePartsRow.veiledFits Try.pinned.checked.prog Try.f9.params.toList (Try.f9.params.toList ++ Rows.ropePartsSpec.plain.varTypes Try.pinned.checked.prog ++ Try.f9.resultTypes.toList)) = true := by kernel_rfl
theorem facts0 : ((Rows.ropePartsRow.plainKeys == Try.pinned.checked.prog.plainKeys) && Try.pinned.checked.prog.mayEnter && (Rows.ropePartsRow.lifted == Try.pinned.checked.prog.liftsFinal) && (Try.pinned.checked.prog.make == some Rows.ropePartsRow.make)) = true := by kernel_rfl
set_option maxRecDepth 100000 in
theorem facts : joinedFacts Try.pinned.checked.prog 9 Try.f9 Rows.ropePartsSpec Rows.ropePartsRow = true := by
  unfold joinedFacts
  refine band ?_ fact32
  refine band ?_ fact31
  refine band ?_ fact30
  refine band ?_ fact29
  refine band ?_ (cut facts0).2
  refine band ?_ (cut (cut facts0).1).2
  refine band ?_ (cut (cut (cut facts0).1).1).2
  refine band ?_ fact25
  refine band ?_ fact24
  refine band ?_ (cut (cut (cut facts0).1).1).1
  refine band ?_ fact22
  refine band ?_ fact21
  refine band ?_ fact20
  refine band ?_ fact19
  refine band ?_ fact18
  refine band ?_ fact17
  refine band ?_ fact16
  refine band ?_ fact15
  refine band ?_ fact14
  refine band ?_ fact13
  refine band ?_ fact12
  refine band ?_ fact11
  refine band ?_ fact10
  refine band ?_ fact9
  refine band ?_ fact8
  refine band ?_ fact7
  refine band ?_ fact6
  refine band ?_ fact5
  refine band ?_ fact4
  refine band ?_ fact3
  refine band ?_ fact2
  exact fact1
theorem named0 : Try.pinned.checked.prog.funcNamed Rows.ropePartsRow.func = some 9 := by kernel_rfl
theorem over : Rows.ropePartsRow.holds Try.pinned (OpenSpec.ofChange Rows.ropePartsSpec) :=
  OpenClaim.holds_of_wide 9 Try.f9 rfl rfl rfl rfl rfl rfl rfl ⟨rfl, rfl, rfl, rfl, rfl⟩ rfl rfl rfl rfl rfl named0 Try.func9 facts
    (of_decide_eq_true (by kernel_rfl)) (by unfold Func.isWrapper; first | (rw [if_pos (by decide +kernel)]; kernel_rfl) | (rw [if_neg (by decide +kernel)]; exact ⟨rfl, rfl⟩))
    (fun os started H enc _ => lifted os started H enc)

theorem proved : Rows.RopePartsSaid := over
#print axioms proved
end Go.Proofs.Ytpkgjgfdobcboaa.ropeParts
