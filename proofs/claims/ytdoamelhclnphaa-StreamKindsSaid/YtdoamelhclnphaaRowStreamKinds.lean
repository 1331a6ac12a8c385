/-
  The law StreamKinds: for every input it returns true, and each argument reads behind the call as it read before. No condition.
-/
import Derived.Test.YtdoamelhclnphaaRows
import Derived.Test.YtdoamelhclnphaaStreamKinds
import Derived.ProofKit
import Derived.SizedLaws
import Derived.OpenShut
import Derived.ShutString
import Derived.ChangeOld
namespace Go.Proofs.Ytdoamelhclnphaa.streamKinds
open Go.ChangeShapes Go.WideShapes Go.ChangeAt Go.RowKit
open Go.ChangeMaps (open_string shut_string)
set_option linter.unusedVariables false

theorem own : ownKnob Try.prog.godebug = none := by kernel_rfl
theorem laidOut : laidOutB Try.prog = true := by kernel_rfl

set_option maxRecDepth 100000 in
theorem lifted (os : Os) (started : os.Started) (H : Type) (enc : TypeId × Value → H) :
    ReturnsInHanded {} Try.checked os 10 .any (Rows.streamKindsSpec.pre6 enc Try.prog Try.f10 Rows.streamKindsRow.domain false) (Rows.streamKindsSpec.post enc Try.prog Try.f10 false true false false) := by
  refine returnsInHanded_of_change_sized (C := Try.checked) own started (by kernel_rfl) Try.func10
    (ChangeSpec.witness6 (enc := enc) (C := Try.checked) false ⟨#[], #[.int .u8 0, .slice none 0 0, .slice none 0 0], []⟩ 8 (by kernel_rfl) (by kernel_rfl) (by kernel_rfl) (by kernel_rfl)) ?_
  intro W base args ds gs before hval0 hW hcnd hsz0 _
  have hval : ∀ (j : Nat) t v, Try.f10.params[j]? = some t → args[j]? = some v → Value.okWide Try.prog W .any base t v := hval0
  have hW' := hW
  obtain ⟨p, q, hA0, hV, rfl, hfz, hnd⟩ := hW
  have hA : DataW.TrodAll enc Try.prog W 0 (fun _ => true) true Try.f10.params.toList args.toList ds p := hA0
  rw [Try.params10] at hA hval
  obtain ⟨v0, vs0, d0, ds0, p0, q0, hargs, rfl, rfl, h0, r0⟩ := trodAll_cons hA
  obtain ⟨v1, vs1, d1, ds1, p1, q1, rfl, rfl, rfl, h1, r1⟩ := trodAll_cons r0
  obtain ⟨v2, vs2, d2, ds2, p2, q2, rfl, rfl, rfl, h2, r2⟩ := trodAll_cons r1
  obtain ⟨rfl, rfl, rfl⟩ := trodAll_nil r2
  obtain rfl : args = #[v0, v1, v2] := by cases args; simp_all
  obtain ⟨rfl, rfl⟩ := trodVars_none hV
  have hsz : ∀ (j : Nat) ty d, Try.f10.params.toList[j]? = some ty → ([d0, d1, d2] : List (DataW H))[j]? = some d → ∀ x ∈ DataW.weights Try.prog ty d, x ≤ reachBytes := fun j ty d h1 h2 x hx => by
    have h3 := List.all_eq_true.1 hsz0 x (DataW.weights_mem_each (j := j) (by rw [List.getElem?_append_left (List.getElem?_eq_some_iff.1 h1).1]; exact h1) (by simpa using h2) x hx)
    simpa using h3
  rw [Try.params10] at hsz
  obtain ⟨a0, rfl, rfl, rfl, w0⟩ := open_int Try.underlying5 (hval 0 5 v0 rfl rfl) h0
  obtain ⟨a1, len1, cap1, rfl⟩ := okWide_slice Try.underlying53 (hval 1 53 v1 rfl rfl)
  have k1 := h1
  have lt1 : ∀ x ∈ p1, x.block < W.heap.size := by obtain ⟨m, hm⟩ := k1; exact DataW.trod_lt m _ _ _ hm
  obtain ⟨fuel1, hf1⟩ := h1
  have c1 := parts_of (a := a1) (len := len1) (cap := cap1) (by exact hf1) (hsz 1 _ _ rfl rfl)
  obtain ⟨a2, len2, cap2, rfl⟩ := okWide_slice Try.underlying29 (hval 2 29 v2 rfl rfl)
  have k2 := h2
  have lt2 : ∀ x ∈ p2, x.block < W.heap.size := by obtain ⟨m, hm⟩ := k2; exact DataW.trod_lt m _ _ _ hm
  obtain ⟨fuel2, hf2⟩ := h2
  have c2 := bytes_of (a := a2) (len := len2) (cap := cap2) (by exact hf2)
  clear hA0 hval0
  refine Calls.mono (streamKinds_walk a0 W w0 c1 c2) fun e W' ⟨he, hfr⟩ => ?_
  have bel := hfr.to_below
  subst he
  exact ⟨_, rfl, _, _, _, [], _, [], hW', trodAll_mk1 (shut_bool Try.underlying4 _), (trodAll_cons_mk (shut_int Try.underlying5 w0) (trodAll_cons_mk (Below.trod laidOut (by kernel_rfl) (of_decide_eq_true (by kernel_rfl)) k1 bel lt1) (trodAll_cons_mk (Below.trod laidOut (by kernel_rfl) (of_decide_eq_true (by kernel_rfl)) k2 bel lt2) trodAll_mk0))), rfl, bel.frame _, fun h => by cases h⟩

theorem band {x y : Bool} (h : x = true) (k : y = true) : (x && y) = true := by rw [h, k]; rfl
theorem cut {x y : Bool} (h : (x && y) = true) : x = true ∧ y = true := by simpa using h
theorem fact1 : ((Rows.streamKindsRow).wf (OpenSpec.ofChange Rows.streamKindsSpec)) = true := by kernel_rfl
theorem fact2 : (laidOutB Try.pinned.checked.prog) = true := by kernel_rfl
theorem fact3 : (mapsRowed Try.pinned.checked.prog) = true := by kernel_rfl
theorem fact4 : (Try.f10.params.all (Try.pinned.checked.prog.readableRec ·)) = true := by kernel_rfl
theorem fact5 : (namedTie Try.pinned.checked.prog Rows.streamKindsRow.named Rows.streamKindsSpec.vars) = true := by kernel_rfl
theorem fact6 : ((Rows.streamKindsRow.stops == [])) = true := by kernel_rfl
theorem fact7 : ((Try.pinned.checked.prog.stops == [])) = true := by kernel_rfl
theorem fact8 : ((Rows.streamKindsRow.knobs == [])) = true := by kernel_rfl
theorem fact9 : ((Try.pinned.checked.prog.stopKnobs == [])) = true := by kernel_rfl
theorem fact10 : ((Rows.streamKindsRow.inPlace == Try.pinned.checked.prog.inPlace 10)) = true := by kernel_rfl
theorem fact11 : ((Rows.streamKindsRow.unfollowed == Try.pinned.checked.prog.unfollowed 10)) = true := by kernel_rfl
theorem fact12 : ((Rows.streamKindsRow.recurses == Try.pinned.checked.prog.recurses 10)) = true := by kernel_rfl
theorem fact13 : ((Rows.streamKindsRow.named == Try.pinned.checked.prog.varsNamed 10)) = true := by kernel_rfl
theorem fact14 : ((Rows.streamKindsRow.maps == (Try.f10.params.toList ++ Rows.streamKindsSpec.plain.varTypes Try.pinned.checked.prog).any (Try.pinned.checked.prog.mapsRec ·))) = true := by kernel_rfl
theorem fact15 : ((Rows.streamKindsRow.ifaces == (Try.f10.params.toList ++ Rows.streamKindsSpec.plain.varTypes Try.pinned.checked.prog).any (Try.pinned.checked.prog.ifacesRec ·))) = true := by kernel_rfl
theorem fact16 : ((Rows.streamKindsRow.mapsOut == Try.pinned.checked.prog.mapsAmong Try.f10.resultTypes.toList)) = true := by kernel_rfl
theorem fact17 : ((Rows.streamKindsRow.loops == (Try.f10.params.toList ++ Rows.streamKindsSpec.plain.varTypes Try.pinned.checked.prog).any (Try.pinned.checked.prog.loopsFrom ·))) = true := by kernel_rfl
theorem fact18 : ((Rows.streamKindsRow.wideKeys == (Try.f10.params.toList ++ Rows.streamKindsSpec.plain.varTypes Try.pinned.checked.prog ++ Try.f10.resultTypes.toList).any (Try.pinned.checked.prog.wideKeysFrom ·))) = true := by kernel_rfl
theorem fact19 : (Rows.streamKindsSpec.vars.all (Try.pinned.checked.prog.varReadable ·)) = true := by kernel_rfl
theorem fact20 : (Try.f10.resultTypes.all (fun t => Try.pinned.checked.prog.readableRec t && decide (t < Try.pinned.checked.prog.types.size))) = true := by kernel_rfl
theorem fact21 : ((Rows.streamKindsRow.ifacesOut == Try.f10.resultTypes.toList.any (Try.pinned.checked.prog.ifacesRec ·))) = true := by kernel_rfl
theorem fact22 : ((Rows.streamKindsRow.loopsOut == Try.f10.resultTypes.toList.any (Try.pinned.checked.prog.loopsFrom ·))) = true := by kernel_rfl
theorem fact24 : (Rows.streamKindsRow.shortTexts.isNone) = true := by kernel_rfl
theorem fact25 : (Try.pinned.checked.prog.stopsHeard) = true := by kernel_rfl
theorem fact29 : ((Rows.streamKindsRow.kinds == (if Rows.streamKindsRow.domain.isEmpty then [] else Try.f10.params.toList.map fun t => match Try.pinned.checked.prog.underlying t with | some (.int k) => some k | _ => none))) = true := by kernel_rfl
theorem fact30 : ((Rows.streamKindsRow.pinned == Rows.streamKindsRow.pinnedBy)) = true := by kernel_rfl
theorem fact31 : ((Rows.streamKindsRow.veiled == (Try.f10.params.toList ++ Rows.streamKindsSpec.plain.varTypes Try.pinned.checked.prog ++ Try.f10.resultTypes.toList).any (Try.pinned.checked.prog.veiledRec ·))) = true := by kernel_rfl
theorem fact32 : (Rows.streamKindsRow.veiledFits Try.pinned.checked.prog Try.f10.params.toList (Try.f10.params.toList ++ Rows.streamKindsSpec.plain.varTypes Try.pinned.checked.prog ++ Try.f10.resultTypes.toList)) = true := by kernel_rfl
theorem facts0 : ((Rows.streamKindsRow.plainKeys == Try.pinned.checked.prog.plainKeys) && Try.pinned.checked.prog.mayEnter && (Rows.streamKindsRow.lifted == Try.pinned.checked.prog.liftsFinal) && (Try.pinned.checked.prog.make == some Rows.streamKindsRow.make)) = true := by kernel_rfl
set_option maxRecDepth 100000 in
theorem facts : joinedFacts Try.pinned.checked.prog 10 Try.f10 Rows.streamKindsSpec Rows.streamKindsRow = true := by
  unfold joinedFacts
  refine band ?_ fact32
  refine band ?_ fact31
  refine band ?_ fact30
  refine band ?_ fact29
  refine band ?_ (cut facts0).2
  refine band ?_ (cut (cut facts0).1).2
  refine band ?_ (cut (cut (cut facts0).1).1).2
  refine band ?_ fact25
  refine band ?_ fact24
  refine band ?_ (cut (cut (cut facts0).1).1).1
  refine band ?_ fact22
  refine band ?_ fact21
  refine band ?_ fact20
  refine band ?_ fact19
  refine band ?_ fact18
  refine band ?_ fact17
  refine band ?_ fact16
  refine band ?_ fact15
  refine band ?_ fact14
  refine band ?_ fact13
  refine band ?_ fact12
  refine band ?_ fact11
  refine band ?_ fact10
  refine band ?_ fact9
  refine band ?_ fact8
  refine band ?_ fact7
  refine band ?_ fact6
  refine band ?_ fact5
  refine band ?_ fact4
  refine band ?_ fact3
  refine band ?_ fact2
  exact fact1
theorem named0 : Try.pinned.checked.prog.funcNamed Rows.streamKindsRow.func = some 10 := by kernel_rfl
theorem over : Rows.streamKindsRow.holds Try.pinned (OpenSpec.ofChange Rows.streamKindsSpec) :=
  OpenClaim.holds_of_wide 10 Try.f10 rfl rfl rfl rfl rfl rfl rfl ⟨rfl, rfl, rfl, rfl, rfl⟩ rfl rfl rfl rfl rfl named0 Try.func10 facts
    (of_decide_eq_true (by kernel_rfl)) (by unfold Func.isWrapper; first | (rw [if_pos (by decide +kernel)]; kernel_rfl) | (rw [if_neg (by decide +kernel)]; exact ⟨rfl, rfl⟩))
    (fun os started H enc _ => lifted os started H enc)

theorem proved : Rows.StreamKindsSaid := over
#print axioms proved
end Go.Proofs.Ytdoamelhclnphaa.streamKinds
