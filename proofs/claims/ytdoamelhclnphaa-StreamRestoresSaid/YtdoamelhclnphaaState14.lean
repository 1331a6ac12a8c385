/-
  A state of a stream as an argument.
-/
import Derived.Test.YtdoamelhclnphaaActs14
import Derived.Test.YtdoamelhclnphaaRefA
namespace Go.Proofs.Ytdoamelhclnphaa
open Go.ChangeShapes Go.WideShapes Go.Deep Go.RowKit
set_option maxRecDepth 100000

theorem array7 {α : Type} {cs : Array α} (h : cs.size = 7) : ∃ c0 c1 c2 c3 c4 c5 c6, cs = #[c0, c1, c2, c3, c4, c5, c6] := by
  obtain ⟨l⟩ := cs
  match l, h with
  | [c0, c1, c2, c3, c4, c5, c6], _ => exact ⟨c0, c1, c2, c3, c4, c5, c6, rfl⟩
section
variable {H : Type} {enc : TypeId × Value → H} {w : World} {base : Nat}
theorem part_ofW {fuel : Nat} {c : Value} {x : DataW H × List MemPlace} (h : DataW.trod enc Try.prog w base (fun _ => true) true fuel 29 [c] = some x) (hw : ∀ n ∈ DataW.weights Try.prog 29 x.1, n ≤ reachBytes) :
    ∃ l, PartV w (fun b => b < w.heap.size) c l ∧ l.length ≤ reachBytes := by
  obtain ⟨pa, pl, pc, rfl⟩ : ∃ pa pl pc, c = .slice pa pl pc := by
    rcases open_slice Try.underlying29 h with ⟨hcs, _⟩ | ⟨a2, l2, c2, _, _, _, _, hcs, _⟩
    · simp at hcs; exact ⟨_, _, _, hcs⟩
    · simp at hcs; exact ⟨_, _, _, hcs⟩
  obtain ⟨l, hl, hsz⟩ := bytes_ofW h hw
  have e := hl.len_eq
  subst e
  exact ⟨l, ⟨pa, pc, rfl, hl.le, hl.cap_le, hl.sl, fun b o h0 e => hl.old b o h0 e⟩, hsz⟩
/-- The seven cells of a state. -/
theorem cells14 {fuel : Nat} {c0 c1 c2 c3 c4 c5 c6 : Value} {x : DataW H × List MemPlace} (h : DataW.trod enc Try.prog w base (fun _ => true) true fuel 41 [c0, c1, c2, c3, c4, c5, c6] = some x)
    (hw : ∀ n ∈ DataW.weights Try.prog 41 x.1, n ≤ reachBytes) : ∃ m, Sv w (fun b => b < w.heap.size) (.agg #[c0, c1, c2, c3, c4, c5, c6]) m ∧ m.q.length ≤ reachBytes ∧ m.rest.length ≤ reachBytes := by
  have hu := Try.underlying41
  obtain ⟨ys, n', _, hy, hlen, hyl, hf⟩ := DataW.trod_struct hu h
  have hD : x.1 = .agg (ys.map (·.1)) := congrArg Prod.fst hy
  rw [hD] at hw
  simp only [DataW.weights, hu] at hw
  have hci : Try.prog.cellsOf 3 = 1 := by kernel_rfl
  have hcb : Try.prog.cellsOf 29 = 1 := by kernel_rfl
  have hco : Try.prog.cellsOf 4 = 1 := by kernel_rfl
  have hce : Try.prog.cellsOf 30 = 1 := by kernel_rfl
  have key : ∀ i, i < 7 → ∃ y, ys[i]? = some y := fun i hi => ⟨_, List.getElem?_eq_getElem (by rw [hyl]; exact hi)⟩
  obtain ⟨y0, e0⟩ := key 0 (by omega)
  obtain ⟨y1, e1⟩ := key 1 (by omega)
  obtain ⟨y2, e2⟩ := key 2 (by omega)
  obtain ⟨y3, e3⟩ := key 3 (by omega)
  obtain ⟨y4, e4⟩ := key 4 (by omega)
  obtain ⟨y5, e5⟩ := key 5 (by omega)
  obtain ⟨y6, e6⟩ := key 6 (by omega)
  have g0 : DataW.trod enc Try.prog w base (fun _ => true) true n' 3 [c0] = some y0 := by rw [← e0]; simpa [hci] using hf 0 _ rfl
  have g1 : DataW.trod enc Try.prog w base (fun _ => true) true n' 29 [c1] = some y1 := by rw [← e1]; simpa [hci, hcb] using hf 1 _ rfl
  have g2 : DataW.trod enc Try.prog w base (fun _ => true) true n' 4 [c2] = some y2 := by rw [← e2]; simpa [hci, hcb, hco] using hf 2 _ rfl
  have g3 : DataW.trod enc Try.prog w base (fun _ => true) true n' 29 [c3] = some y3 := by rw [← e3]; simpa [hci, hcb, hco] using hf 3 _ rfl
  have g4 : DataW.trod enc Try.prog w base (fun _ => true) true n' 3 [c4] = some y4 := by rw [← e4]; simpa [hci, hcb, hco] using hf 4 _ rfl
  have g5 : DataW.trod enc Try.prog w base (fun _ => true) true n' 30 [c5] = some y5 := by rw [← e5]; simpa [hci, hcb, hco, hce] using hf 5 _ rfl
  have g6 : DataW.trod enc Try.prog w base (fun _ => true) true n' 30 [c6] = some y6 := by rw [← e6]; simpa [hci, hcb, hco, hce] using hf 6 _ rfl
  have w1 : ∀ q ∈ DataW.weights Try.prog 29 y1.1, q ≤ reachBytes := weights_each (j := 1) hw rfl (by rw [List.getElem?_map, e1]; rfl)
  have w3 : ∀ q ∈ DataW.weights Try.prog 29 y3.1, q ≤ reachBytes := weights_each (j := 3) hw rfl (by rw [List.getElem?_map, e3]; rfl)
  obtain ⟨z0, q0, _, _⟩ := DataW.trod_int Try.underlying3 g0
  obtain ⟨z2, q2, _⟩ := DataW.trod_bool Try.underlying4 g2
  obtain ⟨z4, q4, _, _⟩ := DataW.trod_int Try.underlying3 g4
  obtain ⟨z5, q5, _, _⟩ := DataW.trod_int Try.underlying30 g5
  obtain ⟨z6, q6, _, _⟩ := DataW.trod_int Try.underlying30 g6
  obtain ⟨l1, p1, h1⟩ := part_ofW g1 w1
  obtain ⟨l3, p3, h3⟩ := part_ofW g3 w3
  simp only [List.cons.injEq, and_true] at q0 q2 q4 q5 q6
  subst q0 q2 q4 q5 q6
  exact ⟨⟨z0, l1, z2, l3, z4, z5, z6⟩, ⟨_, _, rfl, p1, p3⟩, h1, h3⟩
theorem state14_of {b0 : Nat} {r : Reach} {v : Value} {d : DataW H} {p : List MemPlace} (hv : Value.okWide Try.prog w r b0 41 v) (h : DataW.Trod enc Try.prog w base (fun _ => true) true 41 v d p)
    (hw : ∀ n ∈ DataW.weights Try.prog 41 d, n ≤ reachBytes) : ∃ m, Sv w (fun b => b < w.heap.size) v m ∧ m.q.length ≤ reachBytes ∧ m.rest.length ≤ reachBytes := by
  obtain ⟨cs, rfl, hsz⟩ := okWide_struct Try.underlying41 hv
  obtain ⟨c0, c1, c2, c3, c4, c5, c6, rfl⟩ := array7 (hsz.trans (by kernel_rfl))
  obtain ⟨fuel, hf⟩ := h
  exact cells14 (by simpa [Value.cells] using hf) hw
end
end Go.Proofs.Ytdoamelhclnphaa
