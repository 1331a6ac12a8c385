/-
  The calls of layer 12's laws: an argument that is a list of them, 'small' and 'text'.
-/
import Derived.Test.YtpkgjgfdobcboaaKnown12
import Derived.Test.YtpkgjgfdobcboaaOpenF
import Derived.SliceStrings
namespace Go.Proofs.Ytpkgjgfdobcboaa
open Go.ChangeShapes Go.WideShapes Go.RowKit
set_option maxRecDepth 100000

/-- A slice of strings. -/
structure StrsAt (w : World) (M : Nat) (a : Option Addr) (len cap : Nat) (ss : Parts) : Prop where
  len_eq : len = ss.length
  le : len ≤ cap
  cap_le : cap ≤ maxLen
  sl : SlV w a (ss.map fun l => Value.string (st l))
  old : ∀ b o, 0 < len → a = some ⟨b, o, none⟩ → b < M
  size : ∀ p ∈ ss, p.length ≤ maxLen
theorem StrsAt.keep {w w' : World} {M : Nat} {a : Option Addr} {len cap : Nat} {ss : Parts} (h : StrsAt w M a len cap ss) {S : List Nat} (hf : Fr S w w') (hS : ∀ x ∈ S, M ≤ x) : StrsAt w' M a len cap ss :=
  ⟨h.len_eq, h.le, h.cap_le, h.sl.keep hf (fun b o h0 e hm => by have := h.old b o (by have := h.len_eq; simpa [this] using h0) e; have := hS b hm; omega), h.old, h.size⟩
theorem strs_of {H : Type} {enc : TypeId × Value → H} {w : World} {base : Nat} {fuel : Nat} {a : Option Addr} {len cap : Nat} {x : DataW H × List MemPlace}
    (h : DataW.trod enc Try.prog w base (fun _ => true) true fuel 61 [.slice a len cap] = some x) : ∃ ss, StrsAt w w.heap.size a len cap ss := by
  rcases open_strings Try.underlying61 Try.underlying9 (by kernel_rfl) h with ⟨hcs, _⟩ | ⟨a', len', cap', zs, hcs, hb, hl, hm, hz, hx, hc, hw⟩
  · simp at hcs
    obtain ⟨rfl, rfl, rfl⟩ := hcs
    exact ⟨[], rfl, Nat.le_refl _, by unfold maxLen; omega, SlV.nil _ _, by simp, by simp⟩
  · simp only [List.cons.injEq, Value.slice.injEq, and_true] at hcs
    obtain ⟨rfl, rfl, rfl⟩ := hcs
    simp only [if_true] at hz
    have key : 0 < len → ∃ b o, a' = ⟨b, o, none⟩ := fun h0 => by
      obtain ⟨b, o, s⟩ := a'
      have := hc 0 (by omega)
      have hs : s = none := by simpa [Addr.add] using World.cell?_spot this
      exact ⟨b, o, by rw [hs]⟩
    have hst : ∀ s : ByteArray, st s.data.toList = s := fun s => by apply ByteArray.ext; simp [st]
    refine ⟨(zs.take len).map fun s => s.data.toList, by simp; omega, hl, hm, ?_, ?_, ?_⟩
    · intro h0
      rw [List.length_map, List.length_map, List.length_take] at h0
      obtain ⟨b, o, rfl⟩ := key (by omega)
      refine ⟨b, o, rfl, World.block_lt_of_cell? _ _ (hc 0 (by omega)), fun i hi => ?_⟩
      rw [List.length_map, List.length_map, List.length_take] at hi
      have h1 := hc i (by omega)
      rw [addr_add] at h1
      rw [h1, List.getElem?_map, List.getElem?_map, List.getElem?_take, if_pos (by omega), List.getElem?_eq_getElem (by omega)]
      simp [hst, List.getD, show i < zs.length from by omega]
    · intro b o h0 he
      simp only [Option.some.injEq] at he
      subst he
      have := World.block_lt_of_cell? _ _ (hc 0 (by omega))
      rw [addr_add] at this
      exact this
    · intro p hp
      obtain ⟨s, hs, rfl⟩ := List.mem_map.1 hp
      exact hw s (List.mem_of_mem_take hs)
structure A12 where
  what : Int
  n : Int
  wth : Int
  ps : Parts
def okA (x : A12) : Bool := decide (x.ps.length ≤ 30) && x.ps.all (fun p => decide (p.length ≤ 400))
def smallB (A : List A12) : Bool := decide (A.length ≤ 80) && (A.take 81).all okA
/-- A slice of calls. -/
structure Acts12 (w : World) (M : Nat) (a : Option Addr) (len cap : Nat) (A : List A12) : Prop where
  len_eq : len = A.length
  cap_le : len ≤ maxLen
  at_ : ∀ i (hi : i < A.length), ∃ b o pa pl pc, a = some ⟨b, o, none⟩ ∧ b < M ∧ b < w.heap.size ∧ w.cell? ⟨b, o + i * 4, none⟩ = some (.int .i64 A[i].what) ∧ w.cell? ⟨b, o + i * 4 + 1, none⟩ = some (.int .i64 A[i].n) ∧
    w.cell? ⟨b, o + i * 4 + 2, none⟩ = some (.slice pa pl pc) ∧ w.cell? ⟨b, o + i * 4 + 3, none⟩ = some (.int .i64 A[i].wth) ∧ StrsAt w M pa pl pc A[i].ps ∧
    (-9223372036854775808 ≤ A[i].what ∧ A[i].what ≤ 9223372036854775807) ∧ (-9223372036854775808 ≤ A[i].n ∧ A[i].n ≤ 9223372036854775807) ∧ (-9223372036854775808 ≤ A[i].wth ∧ A[i].wth ≤ 9223372036854775807)
theorem Acts12.keep {w w' : World} {M : Nat} {a : Option Addr} {len cap : Nat} {A : List A12} (h : Acts12 w M a len cap A) {S : List Nat} (hf : Fr S w w') (hS : ∀ x ∈ S, M ≤ x) : Acts12 w' M a len cap A :=
  ⟨h.len_eq, h.cap_le, fun i hi => by
    obtain ⟨b, o, pa, pl, pc, e, h1, h2, c0, c1, c2, c3, hs, x⟩ := h.at_ i hi
    have hn : b ∉ S := fun hm => by have := hS b hm; omega
    have hk : ∀ k, w'.cell? ⟨b, k, none⟩ = w.cell? ⟨b, k, none⟩ := fun k => World.cell?_of_block (w := w) (hf.block b h2 hn)
    exact ⟨b, o, pa, pl, pc, e, h1, Nat.lt_of_lt_of_le h2 hf.size, (hk _).trans c0, (hk _).trans c1, (hk _).trans c2, (hk _).trans c3, hs.keep hf hS, x⟩⟩

theorem acts12_of {H : Type} {enc : TypeId × Value → H} {w : World} {base : Nat} {fuel : Nat} {a : Option Addr} {len cap : Nat} {x : DataW H × List MemPlace}
    (h : DataW.trod enc Try.prog w base (fun _ => true) true fuel 96 [.slice a len cap] = some x) : ∃ A, Acts12 w w.heap.size a len cap A := by
  rcases open_slice_fields Try.underlying96 Try.underlying95 (by kernel_rfl) (by kernel_rfl) h with ⟨hcs, _⟩ | ⟨a', len', cap', m, hcs, hl, hm, hmm, hi⟩
  · simp at hcs
    obtain ⟨rfl, rfl, rfl⟩ := hcs
    exact ⟨[], rfl, by unfold maxLen; omega, fun i hi => absurd hi (Nat.not_lt_zero i)⟩
  · simp only [List.cons.injEq, Value.slice.injEq, and_true] at hcs
    obtain ⟨rfl, rfl, rfl⟩ := hcs
    simp only [if_true] at hmm
    subst hmm
    have key : ∀ i, ∃ v : A12, i < len → ∃ b o pa pl pc, some a' = some (⟨b, o, none⟩ : Addr) ∧ b < w.heap.size ∧ b < w.heap.size ∧ w.cell? ⟨b, o + i * 4, none⟩ = some (.int .i64 v.what) ∧ w.cell? ⟨b, o + i * 4 + 1, none⟩ = some (.int .i64 v.n) ∧
        w.cell? ⟨b, o + i * 4 + 2, none⟩ = some (.slice pa pl pc) ∧ w.cell? ⟨b, o + i * 4 + 3, none⟩ = some (.int .i64 v.wth) ∧ StrsAt w w.heap.size pa pl pc v.ps ∧
        (-9223372036854775808 ≤ v.what ∧ v.what ≤ 9223372036854775807) ∧ (-9223372036854775808 ≤ v.n ∧ v.n ≤ 9223372036854775807) ∧ (-9223372036854775808 ≤ v.wth ∧ v.wth ≤ 9223372036854775807) := by
      intro i
      by_cases hlt : i < len
      · obtain ⟨v0, y0, n0, hc0, ht0⟩ := hi i (by omega) 0 _ rfl
        obtain ⟨v1, y1, n1, hc1, ht1⟩ := hi i (by omega) 1 _ rfl
        obtain ⟨v2, y2, n2, hc2, ht2⟩ := hi i (by omega) 2 _ rfl
        obtain ⟨v3, y3, n3, hc3, ht3⟩ := hi i (by omega) 3 _ rfl
        obtain ⟨z0, e0, rfl, k0⟩ := DataW.trod_int Try.underlying3 ht0
        obtain ⟨z1, e1, rfl, k1⟩ := DataW.trod_int Try.underlying3 ht1
        obtain ⟨z3, e3, rfl, k3⟩ := DataW.trod_int Try.underlying24 ht3
        have hsl : ∃ pa pl pc, v2 = .slice pa pl pc := by
          rcases open_strings Try.underlying61 Try.underlying9 (by kernel_rfl) ht2 with ⟨hcs, _⟩ | ⟨a2, l2, c2, zs, hcs, _⟩
          · simp at hcs; exact ⟨_, _, _, hcs⟩
          · simp at hcs; exact ⟨_, _, _, hcs⟩
        obtain ⟨pa, pl, pc, rfl⟩ := hsl
        obtain ⟨ss, hss⟩ := strs_of ht2
        simp only [List.cons.injEq, and_true] at e0 e1 e3
        subst e0 e1 e3
        obtain ⟨b, o, s⟩ := a'
        obtain ⟨_, _, _, hz, _⟩ := hi 0 (by omega) 0 _ rfl
        have hs : s = none := by simpa [Addr.add] using World.cell?_spot hz
        subst hs
        rw [addr_add] at hc0 hc1 hc2 hc3
        have hb : b < w.heap.size := cell_lt hc0
        rw [← Nat.add_assoc] at hc1 hc2 hc3
        exact ⟨⟨z0, z1, z3, ss⟩, fun _ => ⟨b, o, pa, pl, pc, rfl, hb, hb, hc0, hc1, hc2, hc3, hss, wf_bd k0, wf_bd k1, wf_bd k3⟩⟩
      · exact ⟨⟨0, 0, 0, []⟩, fun h => absurd h hlt⟩
    obtain ⟨f, hf⟩ := Classical.axiomOfChoice key
    refine ⟨(List.range len).map f, by simp, by omega, fun i hi' => ?_⟩
    have hi2 : i < len := by simpa using hi'
    have := hf i hi2
    simpa using this

set_option maxHeartbeats 1000000 in
theorem small12 {w : World} {M : Nat} {a : Option Addr} {len cap : Nat} {A : List A12} (h : Acts12 w M a len cap A) :
    Calls Try.prog 57 #[.slice a len cap] w fun e w' => e = .returned (.bool (smallB A)) ∧ w = w' := by
  have hle := h.len_eq
  subst hle
  have hmx : (A.length : Int) ≤ 9223372036854775807 := by have := h.cap_le; unfold maxLen at this; omega
  go_enter Try.func57, Try.ntmps57
  go_wp2_with fail
  go_loop [3] (fun i => ∃ k : Nat, k ≤ A.length ∧ k ≤ 81 ∧ i = .int .i64 k ∧ Hid ((A.take k).all okA = true)) (fun i => A.length - (intOf i).toNat)
  case atStart => exact ⟨0, by omega, by omega, rfl, Lib.hid rfl⟩
  case round =>
    obtain ⟨k, hk, hk81, rfl, HO⟩ := hrel
    by_cases hlt : (k : Int) < A.length
    · by_cases h81 : (k : Int) < 81
      · have hkA : k < A.length := by omega
        obtain ⟨b, o, pa, pl, pc, rfl, hbM, hb, c0, c1, c2, c3, hss, _⟩ := h.at_ k hkA
        have hbad : okA A[k] = false → smallB A = false := fun e => by
          unfold smallB
          have : (A.take 81).all okA = false := by
            rw [List.all_eq_false]
            exact ⟨A[k], List.mem_take_iff_getElem.2 ⟨k, by omega, rfl⟩, by simp [e]⟩
          rw [this, Bool.and_false]
        have hgood : okA A[k] = true → (A.take (k + 1)).all okA = true := fun e => by
          rw [List.take_succ_eq_append_getElem hkA, List.all_append, HO.out]
          simp [e]
        have HB := Lib.hid hbad
        have HG := Lib.hid hgood
        have hpl := hss.len_eq
        have hidx : 0 ≤ (k : Int) := by omega
        clear hbad hgood c0 c1 c3
        by_cases h30 : (30 : Int) < pl
        · have hx : okA A[k] = false := by unfold okA; rw [show decide (A[k].ps.length ≤ 30) = false from by simp; omega, Bool.false_and]
          have HF := Lib.hid (HB.out hx)
          clear hx hpl
          go_wp2_with fail
          go_ret
          exact ⟨by rw [HF.out]; rfl, rfl⟩
        · have h30' : (pl : Int) ≤ 30 := by omega
          clear h30
          have HPL := Lib.hid hpl
          clear hpl
          go_wp2_with fail
          go_loop [29] (fun j => ∃ q : Nat, q ≤ pl ∧ j = .int .i64 q ∧ Hid ((A[k].ps.take q).all (fun p => decide (p.length ≤ 400)) = true)) (fun j => pl - (intOf j).toNat)
          case atStart => exact ⟨0, by omega, rfl, Lib.hid rfl⟩
          case round =>
            obtain ⟨q, hq, rfl, HQ⟩ := hrel
            by_cases hql : (q : Int) < pl
            · have hqA : q < A[k].ps.length := by have := HPL.out; omega
              obtain ⟨sb, so, rfl, hsb, hsc⟩ := hss.sl (by rw [List.length_map]; omega)
              have hcell : w.cell? ⟨sb, so + q, none⟩ = some (.string (st A[k].ps[q])) := by
                rw [hsc q (by rw [List.length_map]; exact hqA), List.getElem?_map, List.getElem?_eq_getElem hqA]
                rfl
              have hbad : ¬ A[k].ps[q].length ≤ 400 → okA A[k] = false := fun e => by
                unfold okA
                have : A[k].ps.all (fun p => decide (p.length ≤ 400)) = false := by
                  rw [List.all_eq_false]
                  exact ⟨A[k].ps[q], List.getElem_mem hqA, by simpa using e⟩
                rw [this, Bool.and_false]
              have hgood : A[k].ps[q].length ≤ 400 → (A[k].ps.take (q + 1)).all (fun p => decide (p.length ≤ 400)) = true := fun e => by
                rw [List.take_succ_eq_append_getElem hqA, List.all_append, HQ.out]
                simpa using e
              have hsz := hss.size _ (List.getElem_mem hqA)
              unfold maxLen at hsz
              generalize A[k].ps[q] = p at hcell hbad hgood hsz
              have hszI : (p.length : Int) ≤ 9223372036854775807 := by omega
              have HB2 := Lib.hid hbad
              have HG2 := Lib.hid hgood
              clear hbad hgood hsc
              by_cases h4 : (400 : Int) < p.length
              · have HF := Lib.hid (HB.out (HB2.out (by omega)))
                go_wp2_with fail
                go_ret
                exact ⟨by rw [HF.out]; rfl, rfl⟩
              · have HN := Lib.hid (HG2.out (by omega))
                go_wp2_with fail
                go_round
                case rel => exact ⟨q + 1, by omega, by go_num, HN⟩
                case measure => simp [intOf]; omega
            · have hall : okA A[k] = true := by
                unfold okA
                have := HQ.out
                rw [List.take_of_length_le (by have := HPL.out; omega)] at this
                rw [this, Bool.and_true]
                simp
                have := HPL.out
                omega
              have HN := Lib.hid (HG.out hall)
              clear hall
              go_wp2_with fail
              go_round
              case rel => exact ⟨k + 1, by omega, by omega, by go_num, HN⟩
              case measure => simp [intOf]; omega
      · have hfin : smallB A = false := by unfold smallB; rw [show decide (A.length ≤ 80) = false from by simp; omega, Bool.false_and]
        have HF := Lib.hid hfin
        have h80 : (80 : Int) < A.length := by omega
        have hd : decide ((A.length : Int) ≤ 80) = false := by simpa using h80
        clear hfin
        go_wp2_with fail
        go_ret
        exact ⟨by rw [HF.out]; rfl, rfl⟩
    · by_cases h80 : (A.length : Int) ≤ 80
      · have hfin : smallB A = true := by
          unfold smallB
          have := HO.out
          rw [List.take_of_length_le (by omega)] at this ⊢
          rw [this, Bool.and_true]
          simp
          omega
        have HF := Lib.hid hfin
        have hd : decide ((A.length : Int) ≤ 80) = true := by simpa using h80
        clear hfin
        go_wp2_with fail
        go_ret
        exact ⟨by rw [HF.out]; rfl, rfl⟩
      · have hfin : smallB A = false := by unfold smallB; rw [show decide (A.length ≤ 80) = false from by simp; omega, Bool.false_and]
        have HF := Lib.hid hfin
        have hd : decide ((A.length : Int) ≤ 80) = false := by simpa using h80
        clear hfin
        go_wp2_with fail
        go_ret
        exact ⟨by rw [HF.out]; rfl, rfl⟩

theorem text12 {w : World} {M : Nat} {x y z : Int} {pa : Option Addr} {pl pc : Nat} {ss : Parts} (h : StrsAt w M pa pl pc ss) (ht : tot ss ≤ 1000000) (hn : ss.length ≤ 1000000) :
    Calls Try.prog 59 #[.agg #[.int .i64 x, .int .i64 y, .slice pa pl pc, .int .i64 z]] w fun e w' => e = .returned (.string (st ss.flatten)) ∧ Fr [] w w' := by
  have hpl := h.len_eq
  subst hpl
  have hpi : (ss.length : Int) ≤ 1000000 := by omega
  have hsl := fun o : Obj => h.sl.keep ((Fr.refl [] w).alloc o) (by simp)
  have HS := Lib.hid hsl
  clear hsl
  go_enter Try.func59, Try.ntmps59
  go_wp2_with fail
  have hsw := HS.out (Obj.cells #[Value.int IntKind.i64 x, Value.int IntKind.i64 y, Value.slice pa ss.length pc, Value.int IntKind.i64 z] 95)
  have f0 : Fr [] w (w.alloc (Obj.cells #[Value.int IntKind.i64 x, Value.int IntKind.i64 y, Value.slice pa ss.length pc, Value.int IntKind.i64 z] 95)) := (Fr.refl _ _).alloc _
  generalize (w.alloc (Obj.cells #[Value.int IntKind.i64 x, Value.int IntKind.i64 y, Value.slice pa ss.length pc, Value.int IntKind.i64 z] 95)) = W at *
  go_loop [3, 9] (fun s i => ∃ k : Nat, k ≤ ss.length ∧ i = .int .i64 k ∧ s = .string (st (ss.take k).flatten)) (fun _ i => ss.length - (intOf i).toNat)
  case atStart => exact ⟨0, by omega, rfl, rfl⟩
  case round =>
    obtain ⟨k, hk, rfl, rfl⟩ := hrel
    by_cases hlt : (k : Int) < ss.length
    · have hlt' : k < ss.length := by omega
      obtain ⟨sb, so, rfl, hsb, hsc⟩ := hsw (by rw [List.length_map]; omega)
      have hcell : W.cell? ⟨sb, so + k, none⟩ = some (.string (st ss[k])) := by
        rw [hsc k (by rw [List.length_map]; exact hlt'), List.getElem?_map, List.getElem?_eq_getElem hlt']
        rfl
      have hnext : (ss.take (k + 1)).flatten = (ss.take k).flatten ++ ss[k] := by
        rw [List.take_succ_eq_append_getElem hlt', List.flatten_append]
        simp
      have hle := tot_take_le ss (k + 1)
      unfold tot at hle ht
      rw [hnext, List.length_append] at hle
      generalize ss[k] = p at *
      generalize (ss.take k).flatten = F at *
      have HN := Lib.hid hnext
      have hb : (F.length : Int) + p.length ≤ 1000000 := by omega
      clear hnext hsc hle
      go_wp2_with fail
      go_round
      case rel => exact ⟨k + 1, by omega, by go_num, by rw [HN.out]⟩
      case measure => simp [intOf]; omega
    · have hke : ss.take k = ss := List.take_of_length_le (by omega)
      rw [hke]
      clear hke
      obtain ⟨F, hF⟩ : ∃ F, ss.flatten = F := ⟨_, rfl⟩
      rw [hF]
      have HF := Lib.hid hF
      clear hF
      go_wp2_with fail
      go_ret
      exact ⟨by rw [HF.out]; rfl, f0⟩
end Go.Proofs.Ytpkgjgfdobcboaa
