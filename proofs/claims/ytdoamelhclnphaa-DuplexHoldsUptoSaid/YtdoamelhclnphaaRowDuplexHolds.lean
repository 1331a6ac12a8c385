/-
  The law DuplexHolds: for every input it returns true, and each argument reads behind the call as it read before. No condition.
-/
import Derived.Test.YtdoamelhclnphaaRows
import Derived.Test.YtdoamelhclnphaaDuplexHolds
import Derived.ProofKit
import Derived.JoinedCond
import Derived.OpenShut
import Derived.ShutString
import Derived.ChangeOld
namespace Go.Proofs.Ytdoamelhclnphaa.duplexHolds
open Go.ChangeShapes Go.WideShapes Go.ChangeAt Go.RowKit
open Go.ChangeMaps (open_string shut_string)
set_option linter.unusedVariables false

theorem own : ownKnob Try.prog.godebug = none := by kernel_rfl
theorem laidOut : laidOutB Try.prog = true := by kernel_rfl

set_option maxRecDepth 100000 in
theorem lifted (os : Os) (started : os.Started) (H : Type) (enc : TypeId × Value → H) (F0 : Stop.Interp) :
    ReturnsInHanded {} Try.checked os 8 .any ((Rows.OpenSpec.upto Rows.duplexHoldsSpec).pre6 enc Try.prog Try.f8 Rows.duplexHoldsUptoRow.domain false) (((Rows.OpenSpec.upto Rows.duplexHoldsSpec).at F0).post enc Try.prog Try.f8 false true false false) := by
  refine returnsInHanded_of_cond (C := Try.checked) (s := (Rows.OpenSpec.upto Rows.duplexHoldsSpec)) (k := Rows.uptoSmall) rfl own started (by kernel_rfl) Try.func8
    (OpenSpec.witness (enc := enc) (C := Try.checked) (s := (Rows.OpenSpec.upto Rows.duplexHoldsSpec)) (k := Rows.uptoSmall) rfl false ⟨#[], #[.int .i64 0, .int .i64 0, .slice none 0 0], []⟩ 8 (by kernel_rfl) (by kernel_rfl) (by kernel_rfl) (x := ([.lit (.int .i64 0), .lit (.int .i64 0), .nil], [], [])) (by kernel_rfl) (by kernel_rfl) (by kernel_rfl)) ?_
  intro W base args ds gs before hval0 hW _ hk _
  have hval : ∀ (j : Nat) t v, Try.f8.params[j]? = some t → args[j]? = some v → Value.okWide Try.prog W .any base t v := hval0
  have hW' := hW
  obtain ⟨p, q, hA0, hV, rfl, hfz, hnd⟩ := hW
  have hA : DataW.TrodAll enc Try.prog W 0 (fun _ => true) true Try.f8.params.toList args.toList ds p := hA0
  rw [Try.params8] at hA hval
  obtain ⟨v0, vs0, d0, ds0, p0, q0, hargs, rfl, rfl, h0, r0⟩ := trodAll_cons hA
  obtain ⟨v1, vs1, d1, ds1, p1, q1, rfl, rfl, rfl, h1, r1⟩ := trodAll_cons r0
  obtain ⟨v2, vs2, d2, ds2, p2, q2, rfl, rfl, rfl, h2, r2⟩ := trodAll_cons r1
  obtain ⟨rfl, rfl, rfl⟩ := trodAll_nil r2
  obtain rfl : args = #[v0, v1, v2] := by cases args; simp_all
  obtain ⟨rfl, rfl⟩ := trodVars_none hV
  have hbk : Rows.uptoBulkAll ([d0, d1, d2] ++ [] : List (DataW H)) ≤ 1048576 := of_decide_eq_true hk
  obtain ⟨a0, rfl, rfl, rfl, w0⟩ := open_int Try.underlying3 (hval 0 3 v0 rfl rfl) h0
  obtain ⟨a1, rfl, rfl, rfl, w1⟩ := open_int Try.underlying3 (hval 1 3 v1 rfl rfl) h1
  obtain ⟨a2, len2, cap2, rfl⟩ := okWide_slice Try.underlying87 (hval 2 87 v2 rfl rfl)
  have k2 := h2
  have lt2 : ∀ x ∈ p2, x.block < W.heap.size := by obtain ⟨m, hm⟩ := k2; exact DataW.trod_lt m _ _ _ hm
  obtain ⟨fuel2, hf2⟩ := h2
  have c2 := acts15_of (a := a2) (len := len2) (cap := cap2) (by exact hf2) (Nat.le_trans (bulk_at (i := 2) rfl) hbk)
  clear hA0 hval0
  refine Calls.mono (duplexHolds_walk W c2) fun e W' ⟨he, hfr⟩ => ?_
  have bel := hfr.to_below
  subst he
  exact ⟨_, rfl, _, _, _, [], _, [], hW', trodAll_mk1 (shut_bool Try.underlying4 _), (trodAll_cons_mk (shut_int Try.underlying3 w0) (trodAll_cons_mk (shut_int Try.underlying3 w1) (trodAll_cons_mk (Below.trod laidOut (by kernel_rfl) (of_decide_eq_true (by kernel_rfl)) k2 bel lt2) trodAll_mk0))), rfl, bel.frame _, fun h => by cases h⟩

theorem band {x y : Bool} (h : x = true) (k : y = true) : (x && y) = true := by rw [h, k]; rfl
theorem cut {x y : Bool} (h : (x && y) = true) : x = true ∧ y = true := by simpa using h
theorem fact1 : ((Rows.duplexHoldsUptoRow).wf (OpenSpec.ofChange (Rows.OpenSpec.upto Rows.duplexHoldsSpec).bare)) = true := by kernel_rfl
theorem fact2 : (laidOutB Try.pinned.checked.prog) = true := by kernel_rfl
theorem fact3 : (mapsRowed Try.pinned.checked.prog) = true := by kernel_rfl
theorem fact4 : (Try.f8.params.all (Try.pinned.checked.prog.readableRec ·)) = true := by kernel_rfl
theorem fact5 : (namedTie Try.pinned.checked.prog Rows.duplexHoldsUptoRow.named (Rows.OpenSpec.upto Rows.duplexHoldsSpec).bare.vars) = true := by kernel_rfl
theorem fact6 : ((Rows.duplexHoldsUptoRow.stops == [])) = true := by kernel_rfl
theorem fact7 : ((Try.pinned.checked.prog.stops == [])) = true := by kernel_rfl
theorem fact8 : ((Rows.duplexHoldsUptoRow.knobs == [])) = true := by kernel_rfl
theorem fact9 : ((Try.pinned.checked.prog.stopKnobs == [])) = true := by kernel_rfl
theorem fact10 : ((Rows.duplexHoldsUptoRow.inPlace == Try.pinned.checked.prog.inPlace 8)) = true := by kernel_rfl
theorem fact11 : ((Rows.duplexHoldsUptoRow.unfollowed == Try.pinned.checked.prog.unfollowed 8)) = true := by kernel_rfl
theorem fact12 : ((Rows.duplexHoldsUptoRow.recurses == Try.pinned.checked.prog.recurses 8)) = true := by kernel_rfl
theorem fact13 : ((Rows.duplexHoldsUptoRow.named == Try.pinned.checked.prog.varsNamed 8)) = true := by kernel_rfl
theorem fact14 : ((Rows.duplexHoldsUptoRow.maps == (Try.f8.params.toList ++ (Rows.OpenSpec.upto Rows.duplexHoldsSpec).bare.plain.varTypes Try.pinned.checked.prog).any (Try.pinned.checked.prog.mapsRec ·))) = true := by kernel_rfl
theorem fact15 : ((Rows.duplexHoldsUptoRow.ifaces == (Try.f8.params.toList ++ (Rows.OpenSpec.upto Rows.duplexHoldsSpec).bare.plain.varTypes Try.pinned.checked.prog).any (Try.pinned.checked.prog.ifacesRec ·))) = true := by kernel_rfl
theorem fact16 : ((Rows.duplexHoldsUptoRow.mapsOut == Try.pinned.checked.prog.mapsAmong Try.f8.resultTypes.toList)) = true := by kernel_rfl
theorem fact17 : ((Rows.duplexHoldsUptoRow.loops == (Try.f8.params.toList ++ (Rows.OpenSpec.upto Rows.duplexHoldsSpec).bare.plain.varTypes Try.pinned.checked.prog).any (Try.pinned.checked.prog.loopsFrom ·))) = true := by kernel_rfl
theorem fact18 : ((Rows.duplexHoldsUptoRow.wideKeys == (Try.f8.params.toList ++ (Rows.OpenSpec.upto Rows.duplexHoldsSpec).bare.plain.varTypes Try.pinned.checked.prog ++ Try.f8.resultTypes.toList).any (Try.pinned.checked.prog.wideKeysFrom ·))) = true := by kernel_rfl
theorem fact19 : ((Rows.OpenSpec.upto Rows.duplexHoldsSpec).bare.vars.all (Try.pinned.checked.prog.varReadable ·)) = true := by kernel_rfl
theorem fact20 : (Try.f8.resultTypes.all (fun t => Try.pinned.checked.prog.readableRec t && decide (t < Try.pinned.checked.prog.types.size))) = true := by kernel_rfl
theorem fact21 : ((Rows.duplexHoldsUptoRow.ifacesOut == Try.f8.resultTypes.toList.any (Try.pinned.checked.prog.ifacesRec ·))) = true := by kernel_rfl
theorem fact22 : ((Rows.duplexHoldsUptoRow.loopsOut == Try.f8.resultTypes.toList.any (Try.pinned.checked.prog.loopsFrom ·))) = true := by kernel_rfl
theorem fact24 : (Rows.duplexHoldsUptoRow.shortTexts.isNone) = true := by kernel_rfl
theorem fact25 : (Try.pinned.checked.prog.stopsHeard) = true := by kernel_rfl
theorem fact29 : ((Rows.duplexHoldsUptoRow.kinds == (if Rows.duplexHoldsUptoRow.domain.isEmpty then [] else Try.f8.params.toList.map fun t => match Try.pinned.checked.prog.underlying t with | some (.int k) => some k | _ => none))) = true := by kernel_rfl
theorem fact30 : ((Rows.duplexHoldsUptoRow.pinned == Rows.duplexHoldsUptoRow.pinnedBy)) = true := by kernel_rfl
theorem fact31 : ((Rows.duplexHoldsUptoRow.veiled == (Try.f8.params.toList ++ (Rows.OpenSpec.upto Rows.duplexHoldsSpec).bare.plain.varTypes Try.pinned.checked.prog ++ Try.f8.resultTypes.toList).any (Try.pinned.checked.prog.veiledRec ·))) = true := by kernel_rfl
theorem fact32 : (Rows.duplexHoldsUptoRow.veiledFits Try.pinned.checked.prog Try.f8.params.toList (Try.f8.params.toList ++ (Rows.OpenSpec.upto Rows.duplexHoldsSpec).bare.plain.varTypes Try.pinned.checked.prog ++ Try.f8.resultTypes.toList)) = true := by kernel_rfl
theorem facts0 : ((Rows.duplexHoldsUptoRow.plainKeys == Try.pinned.checked.prog.plainKeys) && Try.pinned.checked.prog.mayEnter && (Rows.duplexHoldsUptoRow.lifted == Try.pinned.checked.prog.liftsFinal) && (Try.pinned.checked.prog.make == some Rows.duplexHoldsUptoRow.make)) = true := by kernel_rfl
set_option maxRecDepth 100000 in
theorem facts : joinedFacts Try.pinned.checked.prog 8 Try.f8 (Rows.OpenSpec.upto Rows.duplexHoldsSpec).bare Rows.duplexHoldsUptoRow = true := by
  unfold joinedFacts
  refine band ?_ fact32
  refine band ?_ fact31
  refine band ?_ fact30
  refine band ?_ fact29
  refine band ?_ (cut facts0).2
  refine band ?_ (cut (cut facts0).1).2
  refine band ?_ (cut (cut (cut facts0).1).1).2
  refine band ?_ fact25
  refine band ?_ fact24
  refine band ?_ (cut (cut (cut facts0).1).1).1
  refine band ?_ fact22
  refine band ?_ fact21
  refine band ?_ fact20
  refine band ?_ fact19
  refine band ?_ fact18
  refine band ?_ fact17
  refine band ?_ fact16
  refine band ?_ fact15
  refine band ?_ fact14
  refine band ?_ fact13
  refine band ?_ fact12
  refine band ?_ fact11
  refine band ?_ fact10
  refine band ?_ fact9
  refine band ?_ fact8
  refine band ?_ fact7
  refine band ?_ fact6
  refine band ?_ fact5
  refine band ?_ fact4
  refine band ?_ fact3
  refine band ?_ fact2
  exact fact1
theorem named0 : Try.pinned.checked.prog.funcNamed Rows.duplexHoldsUptoRow.func = some 8 := by kernel_rfl
theorem over : Rows.duplexHoldsUptoRow.holds Try.pinned (Rows.OpenSpec.upto Rows.duplexHoldsSpec) :=
  OpenClaim.holds_of_cond 8 Try.f8 rfl rfl rfl rfl rfl rfl rfl ⟨rfl, rfl, rfl, rfl, rfl⟩ rfl rfl rfl rfl rfl named0 Try.func8 facts
    (of_decide_eq_true (by kernel_rfl)) (by unfold Func.isWrapper; first | (rw [if_pos (by decide +kernel)]; kernel_rfl) | (rw [if_neg (by decide +kernel)]; exact ⟨rfl, rfl⟩))
    (fun os started H enc _ F0 => lifted os started H enc F0)

theorem proved : Rows.DuplexHoldsUptoSaid := over
#print axioms proved
end Go.Proofs.Ytdoamelhclnphaa.duplexHolds
