/-
  Law 22: SpliceRuns: a whole splice.
-/
import Derived.Test.YtodpkdbcdbdjfaaSpRunM
import Derived.Test.YtodpkdbcdbdjfaaSpLaw
import Derived.Test.YtodpkdbcdbdjfaaKnown22
import Derived.Test.YtodpkdbcdbdjfaaActs22
import Derived.Test.YtodpkdbcdbdjfaaRegionU
import Derived.Test.YtodpkdbcdbdjfaaRegionX
import Derived.Test.YtodpkdbcdbdjfaaStepsTwo
import Derived.Deep.Grids
import Derived.Lib.MinMax
import Derived.Deep.DeepCutAuto
import Derived.Deep.CutBlock
namespace Go.Proofs.Ytodpkdbcdbdjfaa
open Go.RowKit
set_option maxRecDepth 100000
set_option linter.unusedSimpArgs false
set_option linter.unusedVariables false

/-- A slice of bools. -/
structure BoolsAt (w : World) (M : Nat) (a : Option Addr) (len cap : Nat) (L : List Bool) : Prop where
  len_eq : len = L.length
  cap_le : len ≤ maxLen
  sl : SlV w a (L.map Value.bool)
  old : ∀ b o, 0 < len → a = some ⟨b, o, none⟩ → b < M
theorem BoolsAt.keep {w w' : World} {M : Nat} {a : Option Addr} {len cap : Nat} {L : List Bool} (h : BoolsAt w M a len cap L) {S : List Nat} (hf : Fr S w w') (hS : ∀ x ∈ S, M ≤ x) : BoolsAt w' M a len cap L :=
  ⟨h.len_eq, h.cap_le, h.sl.keep hf (fun b o h0 e hm => by have := h.old b o (by have := h.len_eq; simpa [this] using h0) e; have := hS b hm; omega), h.old⟩
theorem bools_of {H : Type} {enc : TypeId × Value → H} {w : World} {base : Nat} {fuel : Nat} {a : Option Addr} {len cap : Nat} {x : DataW H × List MemPlace}
    (h : DataW.trod enc Try.prog w base (fun _ => true) true fuel 84 [.slice a len cap] = some x) : ∃ L, BoolsAt w w.heap.size a len cap L := by
  rcases Go.Deep.open_bools Try.underlying84 Try.underlying4 (by kernel_rfl) h with ⟨hcs, _⟩ | ⟨a', len', cap', B, hcs, hb, hl, hm, hx, hc⟩
  · simp at hcs
    obtain ⟨rfl, rfl, rfl⟩ := hcs
    exact ⟨[], rfl, by unfold maxLen; omega, SlV.nil _ _, by simp⟩
  · simp only [List.cons.injEq, Value.slice.injEq, and_true] at hcs
    obtain ⟨rfl, rfl, rfl⟩ := hcs
    have key : 0 < len → ∃ b o, a' = ⟨b, o, none⟩ := fun h0 => by
      obtain ⟨b, o, s⟩ := a'
      have := hc 0 (by omega)
      have hs : s = none := by simpa [Addr.add] using World.cell?_spot this
      exact ⟨b, o, by rw [hs]⟩
    refine ⟨(List.range len).map B, by simp, by omega, ?_, ?_⟩
    · intro h0
      rw [List.length_map, List.length_map, List.length_range] at h0
      obtain ⟨b, o, rfl⟩ := key h0
      refine ⟨b, o, rfl, World.block_lt_of_cell? _ _ (hc 0 (by omega)), fun i hi => ?_⟩
      rw [List.length_map, List.length_map, List.length_range] at hi
      have h1 := hc i (by omega)
      rw [addr_add] at h1
      rw [h1, List.getElem?_map, List.getElem?_map, List.getElem?_range hi]
      rfl
    · intro b o h0 e
      injection e with e
      subst e
      exact World.block_lt_of_cell? _ _ (hc 0 (by omega))
theorem Ow.formC {w : World} {M : Nat} {v : Value} {l : List UInt8} (h : Ow w M 5 v ((bi l).map (Value.int .u8))) : ∃ a c, v = .slice a l.length c ∧ l.length ≤ c ∧ Sl w a (bi l) ∧ True ∧ True := by
  obtain ⟨a, c, e, h1, _, hs, _⟩ := h.formB
  exact ⟨a, c, e, h1, hs, trivial, trivial⟩
theorem WBcells5 {w : World} {x : Nat} {a b c d e : Value} {t : TypeId} (h : w.heap[x]? = some (.cells #[a, b, c, d, e] t (0, 0))) : w.cell? ⟨x, 0, none⟩ = some a ∧ w.cell? ⟨x, 1, none⟩ = some b ∧ w.cell? ⟨x, 2, none⟩ = some c ∧ w.cell? ⟨x, 3, none⟩ = some d ∧ w.cell? ⟨x, 4, none⟩ = some e :=
  ⟨cell_of h, cell_of h, cell_of h, cell_of h, cell_of h⟩
theorem eq_one2 (w : World) : (Op.equalIn 10000 86 (.agg #[.int .i64 1, .int .i64 1]) (.agg #[.int .i64 1, .int .i64 1])).run Try.prog w = .ok true w := by
  have hp : ∀ (x y : Int) (w : World), (part 3 #[.int .i64 x, .int .i64 y] 0).run Try.prog w = .ok (.int .i64 x) w := fun _ _ _ => by kernel_rfl
  have hq : ∀ (x y : Int) (w : World), (part 3 #[.int .i64 x, .int .i64 y] 1).run Try.prog w = .ok (.int .i64 y) w := fun _ _ _ => by kernel_rfl
  have he : ∀ (x y : Int) (w : World), (Op.equalIn 9999 3 (.int .i64 x) (.int .i64 y)).run Try.prog w = .ok (x == y) w := fun x y w => run_equalIn_int w 9998 _ .i64 .i64 x y Try.underlying3
  obtain ⟨i, hi⟩ : ∃ i, Try.prog.info? 3 = some i := Option.isSome_iff_exists.1 (by kernel_rfl)
  have hc : Try.prog.cellsOf 3 = 1 := by kernel_rfl
  rw [show (10000 : Nat) = 9999 + 1 from rfl, run_equalIn_array w 9999 _ _ Try.underlying86 hi, hc, show List.range 2 = [0, 1] from rfl]
  simp only [Op.eqItems, Sem.run_bind, Nat.zero_mul, Nat.one_mul, hp, hq, he, Result.andThen_ok]
  simp [Sem.run_bind, hq, he, Result.andThen_ok]
theorem big_ok22 {x : Int} (h : x ≤ 200) : x ≤ 4611686018427000000 := by omega
theorem small_ok22 {a b : Nat} (e : a = b) (h : a ≤ 200) : b ≤ 65536 := by omega
theorem st_eq22 (l : List UInt8) : (st l == st l) = true := by
  show (l.toArray == l.toArray) = true
  simp
set_option maxHeartbeats 40000000 in
theorem spliceRuns_main {sgn : Nat} {za ya ta sa : Option Addr} {zc yc tc sc : Nat} {Z Y : List UInt8} {T : List Bool} {S : List UInt8} (w : World) (hk : okS sgn (-1) = true) (h1 : 1 ≤ sgn) (h100 : sgn ≤ 100) (hZ : Arg w w.heap.size za Z.length zc Z) (hY : Arg w w.heap.size ya Y.length yc Y) (hT : BoolsAt w w.heap.size ta T.length tc T) (hS : Arg w w.heap.size sa S.length sc S) (hz : Z.length ≤ 200) (hy : Y.length ≤ 200) (ht : T.length ≤ 40) (hs : S.length ≤ 40) :
    Calls Try.prog 9 #[.int .u8 sgn, .slice za Z.length zc, .slice ya Y.length yc, .slice ta T.length tc, .slice sa S.length sc] w fun e w' => e = .returned (.bool true) ∧ Fr [] w w' := by
  have hz' : (Z.length : Int) ≤ 200 := by omega
  have hy' : (Y.length : Int) ≤ 200 := by omega
  have ht' : (T.length : Int) ≤ 40 := by omega
  have hs' : (S.length : Int) ≤ 40 := by omega
  have h1' : (1 : Int) ≤ sgn := by omega
  have h100' : (sgn : Int) ≤ 100 := by omega
  have hwq : IntKind.i64.wrap (sgn : Int) = sgn := IntWalk.i64_in _ (by omega)
  have HNEW := Lib.hid (sp_new_ok w hk)
  have HZN := Lib.hid fun w' (f : Fr [] w w') => hZ.keep f (Nat.le_refl _) (by simp)
  have HYN := Lib.hid fun w' (f : Fr [] w w') => hY.keep f (Nat.le_refl _) (by simp)
  have HTN := Lib.hid fun w' (f : Fr [] w w') => hT.keep f (by simp)
  have HSN := Lib.hid fun w' (f : Fr [] w w') => hS.keep f (Nat.le_refl _) (by simp)
  clear hk hZ hY hT hS
  go_enter Try.func9, Try.ntmps9
  go_wp2_with fail
  refine HNEW.out.mono ?_
  rintro e w1 ⟨b, W, b0, b1, rfl, g1, h1_, p1_, p2_, p3_, p4_⟩
  obtain ⟨Q, hQ⟩ : ∃ Q, w1.heap.size = Q := ⟨_, rfl⟩
  obtain ⟨w2, hw2, f2, q0, q1, q2, q3⟩ : ∃ W', W' = (((w1.alloc (.cells #[.slice za Z.length zc, .slice ya Y.length yc] 85)).alloc (.cells #[.int .i64 0, .int .i64 0] 86)).alloc (.cells #[.slice none 0 0, .slice none 0 0] 85)).alloc (.cells #[.int .i64 0, .int .i64 0] 86) ∧ Fr [] w1 W' ∧ W'.heap[Q]? = some (.cells #[.slice za Z.length zc, .slice ya Y.length yc] 85 (0, 0)) ∧ W'.heap[Q + 1]? = some (.cells #[.int .i64 0, .int .i64 0] 86 (0, 0)) ∧ W'.heap[Q + 2]? = some (.cells #[.slice none 0 0, .slice none 0 0] 85 (0, 0)) ∧ W'.heap[Q + 3]? = some (.cells #[.int .i64 0, .int .i64 0] 86 (0, 0)) := by
    subst hQ
    exact ⟨_, rfl, ((((Fr.refl _ _).alloc _).alloc _).alloc _).alloc _, keepA (keepA (keepA (newA rfl))), keepA (keepA (newA (by simp))), keepA (newA (by simp)), newA (by simp)⟩
  obtain ⟨l1, l2, l3, l4⟩ := h1_.lt
  have hz2 := lt_of_heap q3
  have HG2 := Lib.hid (g1.then0 f2)
  have HM2 : Hid (SRM w w2 Q (fun x => (w1.heap.size ≤ x ∧ x < w1.heap.size) ∨ w2.heap.size ≤ x) (fun x => (w1.heap.size ≤ x ∧ x < w1.heap.size) ∨ w2.heap.size ≤ x) b W b0 b1 (newS sgn) (.slice none 0 0) (.slice none 0 0) [] []) := Lib.hid
    ⟨h1_.outS f2 (by simp), ⟨by omega, by omega, by omega, by omega⟩, Ow.nil _ _ _, Ow.nil _ _ _, by simp [Value.ownBlock], fun x h1 h2 => ⟨fun hn => by rcases hn with hn | hn <;> omega, fun hn => by rcases hn with hn | hn <;> omega⟩, by simp [Value.ownBlock], by omega⟩
  have HB2 : Hid (D4 w2 Q (.slice za Z.length zc) (.slice ya Y.length yc) 0 0 (.slice none 0 0) (.slice none 0 0) 0 0) := Lib.hid ⟨q0, q1, q2, q3⟩
  clear HNEW h1_ l1 l2 l3 l4 hz2 f2 g1 q0 q1 q2 q3 p1_ p2_ p3_ p4_
  go_wp2_with fail
  rw [← hw2]
  try rw [hQ]
  clear hw2
  simp only [Nat.add_assoc, Nat.reduceAdd]
  go_loopw [17] (fun v wr => ∃ (n : Nat) (s : SS) (N0 N1 : Nat → Prop) (u0 u1 : Value) (O0 O1 : List UInt8) (a0 a1 s0 s1 : Nat), n ≤ 2412 ∧ v = .int .i64 n ∧ Hid (SRM w wr Q N0 N1 b W b0 b1 s u0 u1 O0 O1) ∧ Hid (D4 wr Q (.slice za Z.length zc) (.slice ya Y.length yc) a0 a1 u0 u1 s0 s1) ∧ Hid (RB22 sgn Z Y s O1 O0 a0 a1 s1 s0 n) ∧ Hid (Fr [] w wr)) (fun v _ => 4000 - (intOf v).toNat)
  case atStart => exact ⟨0, newS sgn, _, _, _, _, [], [], 0, 0, 0, 0, by omega, rfl, HM2, HB2, Lib.hid (RB22.new sgn Z Y), HG2⟩
  case round =>
    clear HM2 HB2 HG2
    obtain ⟨n, s, N0, N1, u0, u1, O0, O1, a0, a1, s0, s1, hn, rfl, HM, HB, HR, HG⟩ := hrel
    rename World => wr
    have hn4 : (n : Int) < 4000 := by omega
    have htm2 : (n : Int).tmod 2 = ((n % 2 : Nat) : Int) := rfl
    go_upto_region 14 with fail
    go_cut [89] (fun v wx => ∃ bb : Bool, v = .bool bb ∧ (n % 3 = 0 → bb = false) ∧ wx = wr)
    case first =>
      as_aux_lemma =>
        by_cases hT0 : (0 : Int) < T.length
        · have hT : 0 < T.length := by omega
          obtain ⟨tb, tof, rfl, htb, htc⟩ := (HTN.out _ HG.out).sl (by rw [List.length_map]; exact hT)
          have hiT : n % T.length < T.length := Nat.mod_lt _ hT
          have hcell := htc (n % T.length) (by rw [List.length_map]; exact hiT)
          rw [List.getElem?_map, List.getElem?_eq_getElem hiT, Option.map_some] at hcell
          generalize T[n % T.length] = tv at hcell
          have htm : (n : Int).tmod T.length = ((n % T.length : Nat) : Int) := rfl
          generalize n % T.length = j at hiT hcell htm
          have hjT : (j : Int) < T.length := by omega
          have hj0 : (0 : Int) ≤ j := by omega
          have hTi : ¬ (T.length : Int) = 0 := by omega
          have htm3 : (n : Int).tmod 3 = ((n % 3 : Nat) : Int) := rfl
          have hc3 : n % 3 < 3 := Nat.mod_lt _ (by omega)
          obtain ⟨q, hq⟩ : ∃ q, n % 3 = q := ⟨_, rfl⟩
          rw [hq] at htm3 hc3
          clear htc HTN
          cases tv with
          | false =>
            go_wp2_with fail
            go_meet
            exact ⟨false, rfl, fun _ => rfl, rfl⟩
          | true =>
            by_cases hq0 : q = 0
            · subst hq0
              go_wp2_with fail
              go_meet
              exact ⟨false, rfl, fun _ => rfl, rfl⟩
            · have hq1 : (0 : Int) < q := by omega
              have hq2 : 0 < q := by omega
              go_wp2_with fail
              go_meet
              exact ⟨true, rfl, fun h => absurd (hq.symm.trans h) hq0, rfl⟩
        · clear HTN
          go_wp2_with fail
          go_meet
          exact ⟨false, rfl, fun _ => rfl, rfl⟩
    case rest =>
      obtain ⟨bb, rfl, hbb, hwr⟩ := hcut
      subst hwr
      rename World => wr
      go_upto_if 89 with fail
      go_cut [18] (fun v wx => ∃ e : Int, v = .int .i64 e ∧ (e = 0 ∨ e = 1) ∧ (n % 6 = 0 → e = 0) ∧ (n % 6 = 3 → e = 1) ∧ wx = wr)
      case first =>
        as_aux_lemma =>
          rcases (show n % 2 = 0 ∨ n % 2 = 1 by omega) with h2 | h2
          · skip
            have h2c : ((n % 2 : Nat) : Int) = 0 := by rw [h2]; rfl
            try simp only [h2c]
            cases bb with
            | false =>
              clear hbb
              go_wp2_with fail
              go_meet
              exact ⟨0, (by rw [show (n : Int) % 2 = 0 from by omega]), by omega, by omega, by omega, rfl⟩
            | true =>
              have h3 : n % 3 ≠ 0 := fun h => absurd (hbb h) (by simp)
              clear hbb
              go_wp2_with fail
              go_meet
              exact ⟨1, (by rw [show (n : Int) % 2 = 0 from by omega]; rfl), by omega, by omega, by omega, rfl⟩
          · skip
            have h2c : ((n % 2 : Nat) : Int) = 1 := by rw [h2]; rfl
            try simp only [h2c]
            cases bb with
            | false =>
              clear hbb
              go_wp2_with fail
              go_meet
              exact ⟨1, (by rw [show (n : Int) % 2 = 1 from by omega]), by omega, by omega, by omega, rfl⟩
            | true =>
              have h3 : n % 3 ≠ 0 := fun h => absurd (hbb h) (by simp)
              clear hbb
              go_wp2_with fail
              go_meet
              exact ⟨0, (by rw [show (n : Int) % 2 = 1 from by omega]; rfl), by omega, by omega, by omega, rfl⟩
      case rest =>
        obtain ⟨e, rfl, he, he0, he3, hwr⟩ := hcut
        subst hwr
        rename World => wr
        have HE := Lib.hid (And.intro he (And.intro he0 he3))
        clear he he0 he3
        obtain ⟨m0, g0, j0⟩ := HR.out.r0
        obtain ⟨m1, g1, j1⟩ := HR.out.r1
        have hd0 : decide ((nextS s.t0 s.c0 0).kind = 4) = s.c0 := by rcases g0.kinds HM.out.sp.h0.ok 0 with ⟨hc, _, _, _, hx⟩ | ⟨hc, _, _, hx⟩ | ⟨hc, _, _, _, _, hx⟩ | ⟨hc, _, _, hx⟩ <;> rw [hx, hc] <;> rfl
        have hd1 : decide ((nextS s.t1 s.c1 1).kind = 4) = s.c1 := by rcases g1.kinds HM.out.sp.h1.ok 1 with ⟨hc, _, _, _, hx⟩ | ⟨hc, _, _, hx⟩ | ⟨hc, _, _, _, _, hx⟩ | ⟨hc, _, _, hx⟩ <;> rw [hx, hc] <;> rfl
        have hr0 : s.t0.rd ≤ 200 := by have h1 := g0.rd; have h2 := g0.at_le; omega
        have hr1 : s.t1.rd ≤ 200 := by have h1 := g1.rd; have h2 := g1.at_le; omega
        have HDN := Lib.hid (done_sp (d := s.c0 && s.c1) HM.out.sp (by omega) (by omega) (by rw [hd0, hd1]))
        rw [HR.out.first] at HDN
        have HRD := Lib.hid (And.intro hr0 hr1)
        clear hd0 hd1 hr0 hr1
        by_cases hdd : s.c0 = true ∧ s.c1 = true
        · as_aux_lemma =>
            obtain ⟨hc0, hc1⟩ := hdd
            rw [hc0, hc1, Bool.and_self] at HDN
            have hO : O1 = Z ∧ s1 = 1 := by rcases g0.kinds HM.out.sp.h0.ok 0 with ⟨hc, _⟩ | ⟨hc, _⟩ | ⟨hc, _⟩ | ⟨_, h1, h2, _⟩; all_goals first | (rw [hc] at hc0; cases hc0) | exact ⟨h1, h2⟩
            have hO1 : O0 = Y ∧ s0 = 1 := by rcases g1.kinds HM.out.sp.h1.ok 1 with ⟨hc, _⟩ | ⟨hc, _⟩ | ⟨hc, _⟩ | ⟨_, h1, h2, _⟩; all_goals first | (rw [hc] at hc1; cases hc1) | exact ⟨h1, h2⟩
            clear g0 g1 j0 j1 hc0 hc1
            obtain ⟨rfl, rfl⟩ := hO
            obtain ⟨rfl, rfl⟩ := hO1
            obtain ⟨x0, x1, rfl, _, us0, _, _⟩ := Ow.formC HM.out.r0
            obtain ⟨x2, x3, rfl, _, us1, _, _⟩ := Ow.formC HM.out.r1
            go_wp2_with fail
            refine HDN.out.mono ?_
            rintro e' w5 ⟨rfl, f5⟩
            have HG5 := Lib.hid (HG.out.then0 f5)
            clear HDN
            obtain ⟨_, _, _, _, c20, c21, c30, c31⟩ := (HB.out.keep0 f5).cells
            have k0 := conv_st (cap := x1) (sl_keep us0 f5 (by simp)) rfl
            have k1 := conv_st (cap := x3) (sl_keep us1 f5 (by simp)) rfl
            have k2 := conv_st (cap := zc) (HZN.out _ HG5.out).sl rfl
            have k3 := conv_st (cap := yc) (HYN.out _ HG5.out).sl rfl
            have e1 := st_eq22 O0
            have e2 := st_eq22 O1
            have hq2 := fun w' => eq_one2 w'
            clear us0 us1 HM HB HR HRD HE f5 HZN HYN HTN HSN HG
            go_wp2_with fail
            refine (known22 _).mono ?_
            rintro e' w9 ⟨rfl, f9⟩
            go_wp2_with fail
            go_ret
            exact ⟨rfl, HG5.out.then0 f9⟩
        · have hdf : (s.c0 && s.c1) = false := by
            cases h0 : s.c0 with
            | false => rfl
            | true => cases h1 : s.c1 with
              | false => rfl
              | true => exact absurd ⟨h0, h1⟩ hdd
          have hfew := HR.out.few hz hy hdd
          rw [hdf] at HDN
          clear hdf hdd g0 g1 j0 j1
          go_wp2_with fail
          refine HDN.out.mono ?_
          rintro e' w5 ⟨rfl, f5⟩
          dsimp only
          go_upto_region 19 with fail
          have HM5 := Lib.hid (HM.out.keep0 f5)
          have HB5 := Lib.hid (HB.out.keep0 f5)
          have HG5 := Lib.hid (HG.out.then0 f5)
          clear HM HB HG f5 HDN
          rcases HE.out.1 with rfl | rfl
          · as_aux_lemma =>
              obtain ⟨mm, gg, jj⟩ := HR.out.r0
              have hkinds := gg.kinds HM5.out.sp.h0.ok 0
              obtain ⟨kd, sd, m, d, ex, hx⟩ : ∃ k_ s_ m_ d_ e_, nextS s.t0 s.c0 0 = ⟨k_, s_, m_, d_, e_⟩ := ⟨_, _, _, _, _, rfl⟩
              rw [hx] at hkinds
              have HKI := Lib.hid hkinds
              have HX := Lib.hid hx
              have HNX := Lib.hid (hx ▸ sp_next0 HM5.out.sp (by have := HRD.out; omega))
              clear hkinds hx gg jj
              go_wp2_with fail
              refine HNX.out.mono ?_
              rintro e' w6 ⟨v, rfl, f6, uu, rfl, ou⟩
              obtain ⟨g, j, rfl, hgj, _, gs, hgn⟩ := ou.formB
              clear ou HNX
              obtain ⟨w7, hw7, f7, q7⟩ : ∃ W, w6.alloc (.cells #[.int .i64 kd, .int .i64 sd, .int .i64 m, .slice g d.length j, .int .i64 ex] 32) = W ∧ Fr [] w6 W ∧ W.heap[w6.heap.size]? = some (.cells #[.int .i64 kd, .int .i64 sd, .int .i64 m, .slice g d.length j, .int .i64 ex] 32 (0, 0)) := ⟨_, rfl, (Fr.refl _ _).alloc _, newA rfl⟩
              have g57 := f6.then0 f7
              have HM7 := Lib.hid (HM5.out.keep0 g57)
              have HB7 := Lib.hid (HB5.out.keep0 g57)
              have HG7 := Lib.hid (HG5.out.then0 g57)
              have HW7 := Lib.hid q7
              have HGS := Lib.hid (And.intro (sl_keep gs f7 (by simp)) hgj)
              have hz6 := f6.size
              have hz5 := HM5.out.hq
              have hWB := lt_of_heap q7
              have HROW : Hid ((∀ x, u0.ownBlock = some x → x < w6.heap.size) ∧ (∀ x, u1.ownBlock = some x → x < w6.heap.size)) := Lib.hid ⟨fun x e => Nat.lt_of_lt_of_le (HM5.out.r0.lt x e).2 hz6, fun x e => Nat.lt_of_lt_of_le (HM5.out.r1.lt x e).2 hz6⟩
              have HGB : Hid (∀ b' o', g = some ⟨b', o', none⟩ → Q + 4 ≤ b') := Lib.hid (fun b' o' e => by have := hgn b' o' e; omega)
              clear HM5 HB5 HG5 f6 f7 q7 gs hgj hgn g57
              go_upto_if 134 with fail
              clear hw7
              go_cut [23] (fun v wx => ∃ z : Nat, v = .int .i64 z ∧ 1 ≤ z ∧ z ≤ 256 ∧ wx = w7)
              case first =>
                as_aux_lemma =>
                  by_cases hS0 : (0 : Int) < S.length
                  · have hS : 0 < S.length := by omega
                    obtain ⟨sb, sof, rfl, hsb, hsc⟩ := (HSN.out _ HG7.out).sl (by rw [bi_length]; exact hS)
                    have hiS : n % S.length < S.length := Nat.mod_lt _ hS
                    have hcell := hsc (n % S.length) (by rw [bi_length]; exact hiS)
                    rw [bi_getD S _ hiS] at hcell
                    have hq := S[n % S.length].toNat_lt
                    generalize S[n % S.length].toNat = q at hcell hq
                    have htm : (n : Int).tmod S.length = ((n % S.length : Nat) : Int) := rfl
                    generalize n % S.length = jx at hiS hcell htm
                    have hjS : (jx : Int) < S.length := by omega
                    have hj0 : (0 : Int) ≤ jx := by omega
                    have hSi : ¬ (S.length : Int) = 0 := by omega
                    have hwq2 : IntKind.i64.wrap (q : Int) = q := IntWalk.i64_in _ (by omega)
                    have hwr : IntKind.i64.wrap (1 + (q : Int)) = 1 + q := IntWalk.i64_in _ (by omega)
                    clear hsc HSN
                    go_wp2_with fail
                    go_meet
                    exact ⟨1 + q, by go_num, by omega, by omega, rfl⟩
                  · clear HSN
                    go_wp2_with fail
                    go_meet
                    exact ⟨1, rfl, by omega, by omega, rfl⟩
              case rest =>
                obtain ⟨z, rfl, hz1, hz2, hwx⟩ := hcut
                subst hwx
                rename World => w7
                generalize hKB : w6.heap.size = KB at *
                clear hKB
                have hni : n % 6 ≠ 3 := fun h => absurd (HE.out.2.2 h) (by decide)
                rcases HKI.out with ⟨hc, hk1, hts, hst, hx⟩ | ⟨hc, hk1, hts, hx⟩ | ⟨hc, ha, hr, hts, hO, hx⟩ | ⟨hc, hO, hsh, hx⟩
                · as_aux_lemma =>
                    injection hx with hx1 hx2 hx3 hx4 hx5
                    subst hx1 hx4
                    have hsd : sd = 0 := hx2
                    subst hsd
                    obtain ⟨m0, gq, _⟩ := HR.out.r0
                    have hal := gq.at_le
                    have hmm : m = sgn := hx3.trans gq.stage
                    have hmt : s.t0.stage = sgn := gq.stage
                    subst hmm
                    obtain ⟨sz, hsz⟩ : ∃ sz : Nat, min z (min sgn (Z.length - a0)) = sz := ⟨_, rfl⟩
                    have hwr : IntKind.i64.wrap ((Z.length : Int) - (a0 : Int)) = (Z.length : Int) - a0 := IntWalk.i64_in _ (by omega)
                    have hmin : min (min (z : Int) (sgn : Int)) ((Z.length : Int) - (a0 : Int)) = (sz : Int) := by omega
                    have hmin2 : min (z : Int) (min (sgn : Int) ((Z.length : Int) - (a0 : Int))) = (sz : Int) := by omega
                    have hws : IntKind.i64.wrap ((a0 : Int) + (sz : Int)) = (a0 : Int) + sz := IntWalk.i64_in _ (by omega)
                    have hle : a0 + sz ≤ Z.length := by omega
                    have hsg : (sz : Int) ≤ s.t0.stage := by rw [hmt]; omega
                    have hz0 : sz = 0 → a0 + sz = Z.length := by omega
                    have hs200 : sz ≤ 200 := by omega
                    have HSZ := Lib.hid (And.intro hle (And.intro hsg (And.intro hz0 hs200)))
                    obtain ⟨w0_, w1_, w2_, w3_, w4_⟩ := WBcells5 HW7.out
                    obtain ⟨c00, c01, c10, c11, _, _, _, _⟩ := HB7.out.cells
                    have HGQ := Lib.hid gq
                    clear gq hx2 hx3 hx5 hle hsg hz0 hmt hs200
                    have HMI : Hid ((if (Z.length : Int) - (a0 : Int) < if sgn < z then (sgn : Int) else (z : Int) then (Z.length : Int) - (a0 : Int) else if sgn < z then (sgn : Int) else (z : Int)) = (sz : Int)) := Lib.hid (by (repeat' (first | omega | split)))
                    clear hmin hmin2
                    have HFB := Lib.hid fun (w' : World) (f : Fr [] w7 w') => (show w'.cell? ⟨KB, 2, none⟩ = some (.int .i64 sgn) ∧ w'.cell? ⟨Q, 0, none⟩ = some (.slice za Z.length zc) ∧ w'.cell? ⟨Q + 1, 0, none⟩ = some (.int .i64 a0) from ⟨cell_of (f.keep HW7.out (by simp)), cell_of (HB7.out.keep0 f).q0, cell_of (HB7.out.keep0 f).q1⟩)
                    go_wp2_with fail
                    have fd0 : Fr [] w7 w7.drew := (Fr.refl _ _).drew
                    refine wp_region_order [(0, true), (1, true), (2, true), (3, true), (4, true), (5, true), (6, true), (7, true), (8, true), (9, true), (10, true), (11, true), (12, true)] (fun w' => Fr [] w7 w') (by kernel_rfl) (by kernel_rfl) fd0 ?_
                    intro OPS HOPS
                    have hops := HOPS.out
                    try simp only [List.append_eq, List.cons_append, List.nil_append] at hops
                    replace HOPS := Lib.hid hops
                    clear hops
                    refine walkO_take (o := _) (v := ?_) (by rw [HOPS.out]; simp only [List.getElem?_toArray, List.getElem?_cons_succ, List.getElem?_cons_zero]; exact rfl) (Or.inl ⟨rfl, ?_⟩) ?_
                    rotate_left
                    · (intro w hSw; have hSx := HFB.out _ hSw; (try dsimp only at hSx); clear hSw; go_simp) <;> (with_reducible rfl)
                    simp only [Act.put, List.setIfInBounds_toArray, List.set_cons_zero, List.set_cons_succ]
                    refine walkO_take (o := _) (v := ?_) (by rw [HOPS.out]; simp only [List.getElem?_toArray, List.getElem?_cons_succ, List.getElem?_cons_zero]; exact rfl) (Or.inl ⟨rfl, ?_⟩) ?_
                    rotate_left
                    · (intro w hSw; have hSx := HFB.out _ hSw; (try dsimp only at hSx); clear hSw; go_simp) <;> (with_reducible rfl)
                    simp only [Act.put, List.setIfInBounds_toArray, List.set_cons_zero, List.set_cons_succ]
                    refine walkO_take (o := _) (v := ?_) (by rw [HOPS.out]; simp only [List.getElem?_toArray, List.getElem?_cons_succ, List.getElem?_cons_zero]; exact rfl) (Or.inl ⟨rfl, ?_⟩) ?_
                    rotate_left
                    · (intro w hSw; have hSx := HFB.out _ hSw; (try dsimp only at hSx); clear hSw; go_simp) <;> (with_reducible rfl)
                    simp only [Act.put, List.setIfInBounds_toArray, List.set_cons_zero, List.set_cons_succ]
                    refine walkO_take (o := _) (v := ?_) (by rw [HOPS.out]; simp only [List.getElem?_toArray, List.getElem?_cons_succ, List.getElem?_cons_zero]; exact rfl) (Or.inl ⟨rfl, ?_⟩) ?_
                    rotate_left
                    · (intro w hSw; have hSx := HFB.out _ hSw; (try dsimp only at hSx); clear hSw; go_simp) <;> (with_reducible rfl)
                    simp only [Act.put, List.setIfInBounds_toArray, List.set_cons_zero, List.set_cons_succ]
                    refine walkO_take (o := _) (v := ?_) (by rw [HOPS.out]; simp only [List.getElem?_toArray, List.getElem?_cons_succ, List.getElem?_cons_zero]; exact rfl) (Or.inl ⟨rfl, ?_⟩) ?_
                    rotate_left
                    · (intro w hSw; have hSx := HFB.out _ hSw; (try dsimp only at hSx); clear hSw; go_simp) <;> (with_reducible rfl)
                    simp only [Act.put, List.setIfInBounds_toArray, List.set_cons_zero, List.set_cons_succ]
                    refine walkO_take (o := _) (v := ?_) (by rw [HOPS.out]; simp only [List.getElem?_toArray, List.getElem?_cons_succ, List.getElem?_cons_zero]; exact rfl) (Or.inl ⟨rfl, ?_⟩) ?_
                    rotate_left
                    · (intro w hSw; have hSx := HFB.out _ hSw; (try dsimp only at hSx); clear hSw; go_simp) <;> (with_reducible rfl)
                    simp only [Act.put, List.setIfInBounds_toArray, List.set_cons_zero, List.set_cons_succ]
                    refine walkO_take (o := _) (v := ?_) (by rw [HOPS.out]; simp only [List.getElem?_toArray, List.getElem?_cons_succ, List.getElem?_cons_zero]; exact rfl) (Or.inl ⟨rfl, ?_⟩) ?_
                    rotate_left
                    · (intro w hSw; have hSx := HFB.out _ hSw; (try dsimp only at hSx); clear hSw; go_simp) <;> (with_reducible rfl)
                    simp only [Act.put, List.setIfInBounds_toArray, List.set_cons_zero, List.set_cons_succ]
                    refine walkO_take (o := _) (v := ?_) (by rw [HOPS.out]; simp only [List.getElem?_toArray, List.getElem?_cons_succ, List.getElem?_cons_zero]; exact rfl) (Or.inl ⟨rfl, ?_⟩) ?_
                    rotate_left
                    · (intro w hSw; have hSx := HFB.out _ hSw; (try dsimp only at hSx); clear hSw; go_simp) <;> (with_reducible rfl)
                    simp only [Act.put, List.setIfInBounds_toArray, List.set_cons_zero, List.set_cons_succ]
                    refine walkO_take (o := _) (v := ?_) (by rw [HOPS.out]; simp only [List.getElem?_toArray, List.getElem?_cons_succ, List.getElem?_cons_zero]; exact rfl) (Or.inl ⟨rfl, ?_⟩) ?_
                    rotate_left
                    · (intro w hSw; have hSx := HFB.out _ hSw; (try dsimp only at hSx); clear hSw; go_simp) <;> (with_reducible rfl)
                    simp only [Act.put, List.setIfInBounds_toArray, List.set_cons_zero, List.set_cons_succ]
                    refine walkO_take (o := _) (v := ?_) (by rw [HOPS.out]; simp only [List.getElem?_toArray, List.getElem?_cons_succ, List.getElem?_cons_zero]; exact rfl) (Or.inl ⟨rfl, ?_⟩) ?_
                    rotate_left
                    · (intro w hSw; have hSx := HFB.out _ hSw; (try dsimp only at hSx); clear hSw; go_simp) <;> (with_reducible rfl)
                    simp only [Act.put, List.setIfInBounds_toArray, List.set_cons_zero, List.set_cons_succ]
                    refine walkO_take (o := _) (v := ?_) (by rw [HOPS.out]; simp only [List.getElem?_toArray, List.getElem?_cons_succ, List.getElem?_cons_zero]; exact rfl) (Or.inl ⟨rfl, ?_⟩) ?_
                    rotate_left
                    · (intro w hSw; have hSx := HFB.out _ hSw; (try dsimp only at hSx); clear hSw; go_simp) <;> (with_reducible rfl)
                    simp only [Act.put, List.setIfInBounds_toArray, List.set_cons_zero, List.set_cons_succ]
                    refine walkO_take (o := _) (v := ?_) (by rw [HOPS.out]; simp only [List.getElem?_toArray, List.getElem?_cons_succ, List.getElem?_cons_zero]; exact rfl) (Or.inl ⟨rfl, ?_⟩) ?_
                    rotate_left
                    · (intro w hSw; have hSx := HFB.out _ hSw; (try dsimp only at hSx); clear hSw; go_simp) <;> (with_reducible rfl)
                    simp only [Act.put, List.setIfInBounds_toArray, List.set_cons_zero, List.set_cons_succ]
                    refine walkO_take (o := _) (v := ?_) (by rw [HOPS.out]; simp only [List.getElem?_toArray, List.getElem?_cons_succ, List.getElem?_cons_zero]; exact rfl) (Or.inl ⟨rfl, ?_⟩) ?_
                    rotate_left
                    · (intro w hSw; have hSx := HFB.out _ hSw; (try dsimp only at hSx); clear hSw; go_simp) <;> (with_reducible rfl)
                    simp only [Act.put, List.setIfInBounds_toArray, List.set_cons_zero, List.set_cons_succ]
                    refine walkO_done ?_
                    clear HOPS OPS
                    obtain ⟨wd, hwd⟩ : ∃ x, x = w7.drew := ⟨_, rfl⟩
                    rw [← hwd]
                    rw [HMI.out]
                    have HF27 : Hid (Fr [] w7 wd) := Lib.hid (by rw [hwd]; exact fd0)
                    clear hwr hal hsz fd0 HFB hwd HMI
                    go_upto_region 29 with fail
                    go_cut [178] (fun v wx => ∃ bb : Bool, v = .bool bb ∧ (bb = true → a0 + sz = Z.length) ∧ (sz = 0 → bb = true) ∧ Fr [] w7 wx)
                    case first =>
                      as_aux_lemma =>
                        clear c00 c01 c10 c11 w0_ w1_ w2_ w3_ w4_
                        have HFA := Lib.hid fun (w' : World) (f : Fr [] wd w') => (show w'.cell? ⟨Q, 0, none⟩ = some (.slice za Z.length zc) ∧ w'.cell? ⟨Q + 1, 0, none⟩ = some (.int .i64 a0) from ⟨cell_of (HB7.out.keep0 (HF27.out.then0 f)).q0, cell_of (HB7.out.keep0 (HF27.out.then0 f)).q1⟩)
                        by_cases hE : a0 + sz = Z.length
                        · have HEE := Lib.hid hE
                          have hEi : ((a0 : Int) + sz == (Z.length : Int)) = true := by rw [beq_iff_eq]; omega
                          clear hE
                          by_cases hS : sz = 0
                          · have hSi : ((sz : Int) == 0) = true := by rw [beq_iff_eq]; omega
                            clear hS
                            go_wp2_with fail
                            have fd : Fr [] wd wd.drew := (Fr.refl _ _).drew
                            refine wp_region_order [(0, true), (1, true), (2, true), (3, true), (4, true), (5, true), (6, true), (7, true), (8, true), (9, true), (10, true), (11, true), (12, true), (13, true), (14, true), (15, true), (16, true), (17, true), (18, true)] (fun w' => Fr [] wd w') (by kernel_rfl) (by kernel_rfl) fd ?_
                            intro OPS HOPS
                            have hops := HOPS.out
                            try simp only [List.append_eq, List.cons_append, List.nil_append] at hops
                            replace HOPS := Lib.hid hops
                            clear hops
                            refine walkO_take (o := _) (v := ?_) (by rw [HOPS.out]; simp only [List.getElem?_toArray, List.getElem?_cons_succ, List.getElem?_cons_zero]; exact rfl) (Or.inl ⟨rfl, ?_⟩) ?_
                            rotate_left
                            · (intro w hSw; have hSx := HFA.out _ hSw; (try dsimp only at hSx); clear hSw; go_simp) <;> (with_reducible rfl)
                            simp only [Act.put, List.setIfInBounds_toArray, List.set_cons_zero, List.set_cons_succ]
                            refine walkO_take (o := _) (v := ?_) (by rw [HOPS.out]; simp only [List.getElem?_toArray, List.getElem?_cons_succ, List.getElem?_cons_zero]; exact rfl) (Or.inl ⟨rfl, ?_⟩) ?_
                            rotate_left
                            · (intro w hSw; have hSx := HFA.out _ hSw; (try dsimp only at hSx); clear hSw; go_simp) <;> (with_reducible rfl)
                            simp only [Act.put, List.setIfInBounds_toArray, List.set_cons_zero, List.set_cons_succ]
                            refine walkO_take (o := _) (v := ?_) (by rw [HOPS.out]; simp only [List.getElem?_toArray, List.getElem?_cons_succ, List.getElem?_cons_zero]; exact rfl) (Or.inl ⟨rfl, ?_⟩) ?_
                            rotate_left
                            · (intro w hSw; have hSx := HFA.out _ hSw; (try dsimp only at hSx); clear hSw; go_simp) <;> (with_reducible rfl)
                            simp only [Act.put, List.setIfInBounds_toArray, List.set_cons_zero, List.set_cons_succ]
                            refine walkO_take (o := _) (v := ?_) (by rw [HOPS.out]; simp only [List.getElem?_toArray, List.getElem?_cons_succ, List.getElem?_cons_zero]; exact rfl) (Or.inl ⟨rfl, ?_⟩) ?_
                            rotate_left
                            · (intro w hSw; have hSx := HFA.out _ hSw; (try dsimp only at hSx); clear hSw; go_simp) <;> (with_reducible rfl)
                            simp only [Act.put, List.setIfInBounds_toArray, List.set_cons_zero, List.set_cons_succ]
                            refine walkO_take (o := _) (v := ?_) (by rw [HOPS.out]; simp only [List.getElem?_toArray, List.getElem?_cons_succ, List.getElem?_cons_zero]; exact rfl) (Or.inl ⟨rfl, ?_⟩) ?_
                            rotate_left
                            · (intro w hSw; have hSx := HFA.out _ hSw; (try dsimp only at hSx); clear hSw; go_simp) <;> (with_reducible rfl)
                            simp only [Act.put, List.setIfInBounds_toArray, List.set_cons_zero, List.set_cons_succ]
                            refine walkO_take (o := _) (v := ?_) (by rw [HOPS.out]; simp only [List.getElem?_toArray, List.getElem?_cons_succ, List.getElem?_cons_zero]; exact rfl) (Or.inl ⟨rfl, ?_⟩) ?_
                            rotate_left
                            · (intro w hSw; have hSx := HFA.out _ hSw; (try dsimp only at hSx); clear hSw; go_simp) <;> (with_reducible rfl)
                            simp only [Act.put, List.setIfInBounds_toArray, List.set_cons_zero, List.set_cons_succ]
                            refine walkO_take (o := _) (v := ?_) (by rw [HOPS.out]; simp only [List.getElem?_toArray, List.getElem?_cons_succ, List.getElem?_cons_zero]; exact rfl) (Or.inl ⟨rfl, ?_⟩) ?_
                            rotate_left
                            · (intro w hSw; have hSx := HFA.out _ hSw; (try dsimp only at hSx); clear hSw; go_simp) <;> (with_reducible rfl)
                            simp only [Act.put, List.setIfInBounds_toArray, List.set_cons_zero, List.set_cons_succ]
                            refine walkO_take (o := _) (v := ?_) (by rw [HOPS.out]; simp only [List.getElem?_toArray, List.getElem?_cons_succ, List.getElem?_cons_zero]; exact rfl) (Or.inl ⟨rfl, ?_⟩) ?_
                            rotate_left
                            · (intro w hSw; have hSx := HFA.out _ hSw; (try dsimp only at hSx); clear hSw; go_simp) <;> (with_reducible rfl)
                            simp only [Act.put, List.setIfInBounds_toArray, List.set_cons_zero, List.set_cons_succ]
                            refine walkO_take (o := _) (v := ?_) (by rw [HOPS.out]; simp only [List.getElem?_toArray, List.getElem?_cons_succ, List.getElem?_cons_zero]; exact rfl) (Or.inl ⟨rfl, ?_⟩) ?_
                            rotate_left
                            · (intro w hSw; have hSx := HFA.out _ hSw; (try dsimp only at hSx); clear hSw; go_simp) <;> (with_reducible rfl)
                            simp only [Act.put, List.setIfInBounds_toArray, List.set_cons_zero, List.set_cons_succ]
                            refine walkO_take (o := _) (v := ?_) (by rw [HOPS.out]; simp only [List.getElem?_toArray, List.getElem?_cons_succ, List.getElem?_cons_zero]; exact rfl) (Or.inl ⟨rfl, ?_⟩) ?_
                            rotate_left
                            · (intro w hSw; have hSx := HFA.out _ hSw; (try dsimp only at hSx); clear hSw; go_simp) <;> (with_reducible rfl)
                            simp only [Act.put, List.setIfInBounds_toArray, List.set_cons_zero, List.set_cons_succ]
                            refine walkO_take (o := _) (v := ?_) (by rw [HOPS.out]; simp only [List.getElem?_toArray, List.getElem?_cons_succ, List.getElem?_cons_zero]; exact rfl) (Or.inl ⟨rfl, ?_⟩) ?_
                            rotate_left
                            · (intro w hSw; have hSx := HFA.out _ hSw; (try dsimp only at hSx); clear hSw; go_simp) <;> (with_reducible rfl)
                            simp only [Act.put, List.setIfInBounds_toArray, List.set_cons_zero, List.set_cons_succ]
                            refine walkO_take (o := _) (v := ?_) (by rw [HOPS.out]; simp only [List.getElem?_toArray, List.getElem?_cons_succ, List.getElem?_cons_zero]; exact rfl) (Or.inl ⟨by rw [HOPS.out]; rfl, ?_⟩) ?_
                            rotate_left
                            · (intro w hSw; have hSx := HFA.out _ hSw; (try dsimp only at hSx); clear hSw; go_simp) <;> (with_reducible rfl)
                            simp only [Act.put, List.setIfInBounds_toArray, List.set_cons_zero, List.set_cons_succ]
                            refine walkO_take (o := _) (v := ?_) (by rw [HOPS.out]; simp only [List.getElem?_toArray, List.getElem?_cons_succ, List.getElem?_cons_zero]; exact rfl) (Or.inl ⟨by rw [HOPS.out]; rfl, ?_⟩) ?_
                            rotate_left
                            · (intro w hSw; have hSx := HFA.out _ hSw; (try dsimp only at hSx); clear hSw; go_simp) <;> (with_reducible rfl)
                            simp only [Act.put, List.setIfInBounds_toArray, List.set_cons_zero, List.set_cons_succ]
                            refine walkO_take (o := _) (v := ?_) (by rw [HOPS.out]; simp only [List.getElem?_toArray, List.getElem?_cons_succ, List.getElem?_cons_zero]; exact rfl) (Or.inl ⟨by rw [HOPS.out]; rfl, ?_⟩) ?_
                            rotate_left
                            · (intro w hSw; have hSx := HFA.out _ hSw; (try dsimp only at hSx); clear hSw; go_simp) <;> (with_reducible rfl)
                            simp only [Act.put, List.setIfInBounds_toArray, List.set_cons_zero, List.set_cons_succ]
                            refine walkO_take (o := _) (v := undef) (by rw [HOPS.out]; simp only [List.getElem?_toArray, List.getElem?_cons_succ, List.getElem?_cons_zero]; exact rfl) (Or.inr ⟨by rw [HOPS.out]; rfl, rfl⟩) ?_
                            simp only [Act.put, List.setIfInBounds_toArray, List.set_cons_zero, List.set_cons_succ]
                            refine walkO_take (o := _) (v := undef) (by rw [HOPS.out]; simp only [List.getElem?_toArray, List.getElem?_cons_succ, List.getElem?_cons_zero]; exact rfl) (Or.inr ⟨by rw [HOPS.out]; rfl, rfl⟩) ?_
                            simp only [Act.put, List.setIfInBounds_toArray, List.set_cons_zero, List.set_cons_succ]
                            refine walkO_take (o := _) (v := undef) (by rw [HOPS.out]; simp only [List.getElem?_toArray, List.getElem?_cons_succ, List.getElem?_cons_zero]; exact rfl) (Or.inr ⟨by rw [HOPS.out]; rfl, rfl⟩) ?_
                            simp only [Act.put, List.setIfInBounds_toArray, List.set_cons_zero, List.set_cons_succ]
                            refine walkO_take (o := _) (v := ?_) (by rw [HOPS.out]; simp only [List.getElem?_toArray, List.getElem?_cons_succ, List.getElem?_cons_zero]; exact rfl) (Or.inl ⟨by rw [HOPS.out]; rfl, ?_⟩) ?_
                            rotate_left
                            · (intro w hSw; have hSx := HFA.out _ hSw; (try dsimp only at hSx); clear hSw; go_simp) <;> (with_reducible rfl)
                            simp only [Act.put, List.setIfInBounds_toArray, List.set_cons_zero, List.set_cons_succ]
                            refine walkO_take (o := _) (v := ?_) (by rw [HOPS.out]; simp only [List.getElem?_toArray, List.getElem?_cons_succ, List.getElem?_cons_zero]; exact rfl) (Or.inl ⟨rfl, ?_⟩) ?_
                            rotate_left
                            · (intro w hSw; have hSx := HFA.out _ hSw; (try dsimp only at hSx); clear hSw; go_simp) <;> (with_reducible rfl)
                            simp only [Act.put, List.setIfInBounds_toArray, List.set_cons_zero, List.set_cons_succ]
                            refine walkO_done ?_
                            clear HOPS OPS
                            go_wp2_with fail
                            go_meet
                            exact ⟨true, rfl, fun _ => HEE.out, fun _ => rfl, HF27.out.drew⟩
                          · have hSi : ((sz : Int) == 0) = false := by rw [beq_eq_false_iff_ne]; omega
                            have HSS := Lib.hid hS
                            clear hS
                            by_cases h2 : n % 2 = 0
                            · have h2i : ((n : Int) % 2 == 0) = true := by rw [beq_iff_eq]; omega
                              clear h2
                              go_wp2_with fail
                              have fd : Fr [] wd wd.drew := (Fr.refl _ _).drew
                              refine wp_region_order [(0, true), (1, true), (2, true), (3, true), (4, true), (5, true), (6, true), (7, true), (8, true), (9, true), (10, true), (11, true), (12, true), (13, true), (14, true), (15, true), (16, true), (17, true), (18, true)] (fun w' => Fr [] wd w') (by kernel_rfl) (by kernel_rfl) fd ?_
                              intro OPS HOPS
                              have hops := HOPS.out
                              try simp only [List.append_eq, List.cons_append, List.nil_append] at hops
                              replace HOPS := Lib.hid hops
                              clear hops
                              refine walkO_take (o := _) (v := ?_) (by rw [HOPS.out]; simp only [List.getElem?_toArray, List.getElem?_cons_succ, List.getElem?_cons_zero]; exact rfl) (Or.inl ⟨rfl, ?_⟩) ?_
                              rotate_left
                              · (intro w hSw; have hSx := HFA.out _ hSw; (try dsimp only at hSx); clear hSw; go_simp) <;> (with_reducible rfl)
                              simp only [Act.put, List.setIfInBounds_toArray, List.set_cons_zero, List.set_cons_succ]
                              refine walkO_take (o := _) (v := ?_) (by rw [HOPS.out]; simp only [List.getElem?_toArray, List.getElem?_cons_succ, List.getElem?_cons_zero]; exact rfl) (Or.inl ⟨rfl, ?_⟩) ?_
                              rotate_left
                              · (intro w hSw; have hSx := HFA.out _ hSw; (try dsimp only at hSx); clear hSw; go_simp) <;> (with_reducible rfl)
                              simp only [Act.put, List.setIfInBounds_toArray, List.set_cons_zero, List.set_cons_succ]
                              refine walkO_take (o := _) (v := ?_) (by rw [HOPS.out]; simp only [List.getElem?_toArray, List.getElem?_cons_succ, List.getElem?_cons_zero]; exact rfl) (Or.inl ⟨rfl, ?_⟩) ?_
                              rotate_left
                              · (intro w hSw; have hSx := HFA.out _ hSw; (try dsimp only at hSx); clear hSw; go_simp) <;> (with_reducible rfl)
                              simp only [Act.put, List.setIfInBounds_toArray, List.set_cons_zero, List.set_cons_succ]
                              refine walkO_take (o := _) (v := ?_) (by rw [HOPS.out]; simp only [List.getElem?_toArray, List.getElem?_cons_succ, List.getElem?_cons_zero]; exact rfl) (Or.inl ⟨rfl, ?_⟩) ?_
                              rotate_left
                              · (intro w hSw; have hSx := HFA.out _ hSw; (try dsimp only at hSx); clear hSw; go_simp) <;> (with_reducible rfl)
                              simp only [Act.put, List.setIfInBounds_toArray, List.set_cons_zero, List.set_cons_succ]
                              refine walkO_take (o := _) (v := ?_) (by rw [HOPS.out]; simp only [List.getElem?_toArray, List.getElem?_cons_succ, List.getElem?_cons_zero]; exact rfl) (Or.inl ⟨rfl, ?_⟩) ?_
                              rotate_left
                              · (intro w hSw; have hSx := HFA.out _ hSw; (try dsimp only at hSx); clear hSw; go_simp) <;> (with_reducible rfl)
                              simp only [Act.put, List.setIfInBounds_toArray, List.set_cons_zero, List.set_cons_succ]
                              refine walkO_take (o := _) (v := ?_) (by rw [HOPS.out]; simp only [List.getElem?_toArray, List.getElem?_cons_succ, List.getElem?_cons_zero]; exact rfl) (Or.inl ⟨rfl, ?_⟩) ?_
                              rotate_left
                              · (intro w hSw; have hSx := HFA.out _ hSw; (try dsimp only at hSx); clear hSw; go_simp) <;> (with_reducible rfl)
                              simp only [Act.put, List.setIfInBounds_toArray, List.set_cons_zero, List.set_cons_succ]
                              refine walkO_take (o := _) (v := ?_) (by rw [HOPS.out]; simp only [List.getElem?_toArray, List.getElem?_cons_succ, List.getElem?_cons_zero]; exact rfl) (Or.inl ⟨rfl, ?_⟩) ?_
                              rotate_left
                              · (intro w hSw; have hSx := HFA.out _ hSw; (try dsimp only at hSx); clear hSw; go_simp) <;> (with_reducible rfl)
                              simp only [Act.put, List.setIfInBounds_toArray, List.set_cons_zero, List.set_cons_succ]
                              refine walkO_take (o := _) (v := ?_) (by rw [HOPS.out]; simp only [List.getElem?_toArray, List.getElem?_cons_succ, List.getElem?_cons_zero]; exact rfl) (Or.inl ⟨rfl, ?_⟩) ?_
                              rotate_left
                              · (intro w hSw; have hSx := HFA.out _ hSw; (try dsimp only at hSx); clear hSw; go_simp) <;> (with_reducible rfl)
                              simp only [Act.put, List.setIfInBounds_toArray, List.set_cons_zero, List.set_cons_succ]
                              refine walkO_take (o := _) (v := ?_) (by rw [HOPS.out]; simp only [List.getElem?_toArray, List.getElem?_cons_succ, List.getElem?_cons_zero]; exact rfl) (Or.inl ⟨rfl, ?_⟩) ?_
                              rotate_left
                              · (intro w hSw; have hSx := HFA.out _ hSw; (try dsimp only at hSx); clear hSw; go_simp) <;> (with_reducible rfl)
                              simp only [Act.put, List.setIfInBounds_toArray, List.set_cons_zero, List.set_cons_succ]
                              refine walkO_take (o := _) (v := ?_) (by rw [HOPS.out]; simp only [List.getElem?_toArray, List.getElem?_cons_succ, List.getElem?_cons_zero]; exact rfl) (Or.inl ⟨rfl, ?_⟩) ?_
                              rotate_left
                              · (intro w hSw; have hSx := HFA.out _ hSw; (try dsimp only at hSx); clear hSw; go_simp) <;> (with_reducible rfl)
                              simp only [Act.put, List.setIfInBounds_toArray, List.set_cons_zero, List.set_cons_succ]
                              refine walkO_take (o := _) (v := ?_) (by rw [HOPS.out]; simp only [List.getElem?_toArray, List.getElem?_cons_succ, List.getElem?_cons_zero]; exact rfl) (Or.inl ⟨rfl, ?_⟩) ?_
                              rotate_left
                              · (intro w hSw; have hSx := HFA.out _ hSw; (try dsimp only at hSx); clear hSw; go_simp) <;> (with_reducible rfl)
                              simp only [Act.put, List.setIfInBounds_toArray, List.set_cons_zero, List.set_cons_succ]
                              refine walkO_take (o := _) (v := ?_) (by rw [HOPS.out]; simp only [List.getElem?_toArray, List.getElem?_cons_succ, List.getElem?_cons_zero]; exact rfl) (Or.inl ⟨by rw [HOPS.out]; rfl, ?_⟩) ?_
                              rotate_left
                              · (intro w hSw; have hSx := HFA.out _ hSw; (try dsimp only at hSx); clear hSw; go_simp) <;> (with_reducible rfl)
                              simp only [Act.put, List.setIfInBounds_toArray, List.set_cons_zero, List.set_cons_succ]
                              refine walkO_take (o := _) (v := ?_) (by rw [HOPS.out]; simp only [List.getElem?_toArray, List.getElem?_cons_succ, List.getElem?_cons_zero]; exact rfl) (Or.inl ⟨by rw [HOPS.out]; rfl, ?_⟩) ?_
                              rotate_left
                              · (intro w hSw; have hSx := HFA.out _ hSw; (try dsimp only at hSx); clear hSw; go_simp) <;> (with_reducible rfl)
                              simp only [Act.put, List.setIfInBounds_toArray, List.set_cons_zero, List.set_cons_succ]
                              refine walkO_take (o := _) (v := ?_) (by rw [HOPS.out]; simp only [List.getElem?_toArray, List.getElem?_cons_succ, List.getElem?_cons_zero]; exact rfl) (Or.inl ⟨by rw [HOPS.out]; rfl, ?_⟩) ?_
                              rotate_left
                              · (intro w hSw; have hSx := HFA.out _ hSw; (try dsimp only at hSx); clear hSw; go_simp) <;> (with_reducible rfl)
                              simp only [Act.put, List.setIfInBounds_toArray, List.set_cons_zero, List.set_cons_succ]
                              refine walkO_take (o := _) (v := ?_) (by rw [HOPS.out]; simp only [List.getElem?_toArray, List.getElem?_cons_succ, List.getElem?_cons_zero]; exact rfl) (Or.inl ⟨by rw [HOPS.out]; rfl, ?_⟩) ?_
                              rotate_left
                              · (intro w hSw; have hSx := HFA.out _ hSw; (try dsimp only at hSx); clear hSw; go_simp) <;> (with_reducible rfl)
                              simp only [Act.put, List.setIfInBounds_toArray, List.set_cons_zero, List.set_cons_succ]
                              refine walkO_take (o := _) (v := ?_) (by rw [HOPS.out]; simp only [List.getElem?_toArray, List.getElem?_cons_succ, List.getElem?_cons_zero]; exact rfl) (Or.inl ⟨by rw [HOPS.out]; rfl, ?_⟩) ?_
                              rotate_left
                              · (intro w hSw; have hSx := HFA.out _ hSw; (try dsimp only at hSx); clear hSw; go_simp) <;> (with_reducible rfl)
                              simp only [Act.put, List.setIfInBounds_toArray, List.set_cons_zero, List.set_cons_succ]
                              refine walkO_take (o := _) (v := ?_) (by rw [HOPS.out]; simp only [List.getElem?_toArray, List.getElem?_cons_succ, List.getElem?_cons_zero]; exact rfl) (Or.inl ⟨by rw [HOPS.out]; rfl, ?_⟩) ?_
                              rotate_left
                              · (intro w hSw; have hSx := HFA.out _ hSw; (try dsimp only at hSx); clear hSw; go_simp) <;> (with_reducible rfl)
                              simp only [Act.put, List.setIfInBounds_toArray, List.set_cons_zero, List.set_cons_succ]
                              refine walkO_take (o := _) (v := ?_) (by rw [HOPS.out]; simp only [List.getElem?_toArray, List.getElem?_cons_succ, List.getElem?_cons_zero]; exact rfl) (Or.inl ⟨by rw [HOPS.out]; rfl, ?_⟩) ?_
                              rotate_left
                              · (intro w hSw; have hSx := HFA.out _ hSw; (try dsimp only at hSx); clear hSw; go_simp) <;> (with_reducible rfl)
                              simp only [Act.put, List.setIfInBounds_toArray, List.set_cons_zero, List.set_cons_succ]
                              refine walkO_take (o := _) (v := ?_) (by rw [HOPS.out]; simp only [List.getElem?_toArray, List.getElem?_cons_succ, List.getElem?_cons_zero]; exact rfl) (Or.inl ⟨rfl, ?_⟩) ?_
                              rotate_left
                              · (intro w hSw; have hSx := HFA.out _ hSw; (try dsimp only at hSx); clear hSw; go_simp) <;> (with_reducible rfl)
                              simp only [Act.put, List.setIfInBounds_toArray, List.set_cons_zero, List.set_cons_succ]
                              refine walkO_done ?_
                              clear HOPS OPS
                              go_wp2_with fail
                              go_meet
                              exact ⟨true, rfl, fun _ => HEE.out, fun _ => rfl, HF27.out.drew⟩
                            · have h2i : ((n : Int) % 2 == 0) = false := by rw [beq_eq_false_iff_ne]; omega
                              clear h2
                              go_wp2_with fail
                              have fd : Fr [] wd wd.drew := (Fr.refl _ _).drew
                              refine wp_region_order [(0, true), (1, true), (2, true), (3, true), (4, true), (5, true), (6, true), (7, true), (8, true), (9, true), (10, true), (11, true), (12, true), (13, true), (14, true), (15, true), (16, true), (17, true), (18, true)] (fun w' => Fr [] wd w') (by kernel_rfl) (by kernel_rfl) fd ?_
                              intro OPS HOPS
                              have hops := HOPS.out
                              try simp only [List.append_eq, List.cons_append, List.nil_append] at hops
                              replace HOPS := Lib.hid hops
                              clear hops
                              refine walkO_take (o := _) (v := ?_) (by rw [HOPS.out]; simp only [List.getElem?_toArray, List.getElem?_cons_succ, List.getElem?_cons_zero]; exact rfl) (Or.inl ⟨rfl, ?_⟩) ?_
                              rotate_left
                              · (intro w hSw; have hSx := HFA.out _ hSw; (try dsimp only at hSx); clear hSw; go_simp) <;> (with_reducible rfl)
                              simp only [Act.put, List.setIfInBounds_toArray, List.set_cons_zero, List.set_cons_succ]
                              refine walkO_take (o := _) (v := ?_) (by rw [HOPS.out]; simp only [List.getElem?_toArray, List.getElem?_cons_succ, List.getElem?_cons_zero]; exact rfl) (Or.inl ⟨rfl, ?_⟩) ?_
                              rotate_left
                              · (intro w hSw; have hSx := HFA.out _ hSw; (try dsimp only at hSx); clear hSw; go_simp) <;> (with_reducible rfl)
                              simp only [Act.put, List.setIfInBounds_toArray, List.set_cons_zero, List.set_cons_succ]
                              refine walkO_take (o := _) (v := ?_) (by rw [HOPS.out]; simp only [List.getElem?_toArray, List.getElem?_cons_succ, List.getElem?_cons_zero]; exact rfl) (Or.inl ⟨rfl, ?_⟩) ?_
                              rotate_left
                              · (intro w hSw; have hSx := HFA.out _ hSw; (try dsimp only at hSx); clear hSw; go_simp) <;> (with_reducible rfl)
                              simp only [Act.put, List.setIfInBounds_toArray, List.set_cons_zero, List.set_cons_succ]
                              refine walkO_take (o := _) (v := ?_) (by rw [HOPS.out]; simp only [List.getElem?_toArray, List.getElem?_cons_succ, List.getElem?_cons_zero]; exact rfl) (Or.inl ⟨rfl, ?_⟩) ?_
                              rotate_left
                              · (intro w hSw; have hSx := HFA.out _ hSw; (try dsimp only at hSx); clear hSw; go_simp) <;> (with_reducible rfl)
                              simp only [Act.put, List.setIfInBounds_toArray, List.set_cons_zero, List.set_cons_succ]
                              refine walkO_take (o := _) (v := ?_) (by rw [HOPS.out]; simp only [List.getElem?_toArray, List.getElem?_cons_succ, List.getElem?_cons_zero]; exact rfl) (Or.inl ⟨rfl, ?_⟩) ?_
                              rotate_left
                              · (intro w hSw; have hSx := HFA.out _ hSw; (try dsimp only at hSx); clear hSw; go_simp) <;> (with_reducible rfl)
                              simp only [Act.put, List.setIfInBounds_toArray, List.set_cons_zero, List.set_cons_succ]
                              refine walkO_take (o := _) (v := ?_) (by rw [HOPS.out]; simp only [List.getElem?_toArray, List.getElem?_cons_succ, List.getElem?_cons_zero]; exact rfl) (Or.inl ⟨rfl, ?_⟩) ?_
                              rotate_left
                              · (intro w hSw; have hSx := HFA.out _ hSw; (try dsimp only at hSx); clear hSw; go_simp) <;> (with_reducible rfl)
                              simp only [Act.put, List.setIfInBounds_toArray, List.set_cons_zero, List.set_cons_succ]
                              refine walkO_take (o := _) (v := ?_) (by rw [HOPS.out]; simp only [List.getElem?_toArray, List.getElem?_cons_succ, List.getElem?_cons_zero]; exact rfl) (Or.inl ⟨rfl, ?_⟩) ?_
                              rotate_left
                              · (intro w hSw; have hSx := HFA.out _ hSw; (try dsimp only at hSx); clear hSw; go_simp) <;> (with_reducible rfl)
                              simp only [Act.put, List.setIfInBounds_toArray, List.set_cons_zero, List.set_cons_succ]
                              refine walkO_take (o := _) (v := ?_) (by rw [HOPS.out]; simp only [List.getElem?_toArray, List.getElem?_cons_succ, List.getElem?_cons_zero]; exact rfl) (Or.inl ⟨rfl, ?_⟩) ?_
                              rotate_left
                              · (intro w hSw; have hSx := HFA.out _ hSw; (try dsimp only at hSx); clear hSw; go_simp) <;> (with_reducible rfl)
                              simp only [Act.put, List.setIfInBounds_toArray, List.set_cons_zero, List.set_cons_succ]
                              refine walkO_take (o := _) (v := ?_) (by rw [HOPS.out]; simp only [List.getElem?_toArray, List.getElem?_cons_succ, List.getElem?_cons_zero]; exact rfl) (Or.inl ⟨rfl, ?_⟩) ?_
                              rotate_left
                              · (intro w hSw; have hSx := HFA.out _ hSw; (try dsimp only at hSx); clear hSw; go_simp) <;> (with_reducible rfl)
                              simp only [Act.put, List.setIfInBounds_toArray, List.set_cons_zero, List.set_cons_succ]
                              refine walkO_take (o := _) (v := ?_) (by rw [HOPS.out]; simp only [List.getElem?_toArray, List.getElem?_cons_succ, List.getElem?_cons_zero]; exact rfl) (Or.inl ⟨rfl, ?_⟩) ?_
                              rotate_left
                              · (intro w hSw; have hSx := HFA.out _ hSw; (try dsimp only at hSx); clear hSw; go_simp) <;> (with_reducible rfl)
                              simp only [Act.put, List.setIfInBounds_toArray, List.set_cons_zero, List.set_cons_succ]
                              refine walkO_take (o := _) (v := ?_) (by rw [HOPS.out]; simp only [List.getElem?_toArray, List.getElem?_cons_succ, List.getElem?_cons_zero]; exact rfl) (Or.inl ⟨rfl, ?_⟩) ?_
                              rotate_left
                              · (intro w hSw; have hSx := HFA.out _ hSw; (try dsimp only at hSx); clear hSw; go_simp) <;> (with_reducible rfl)
                              simp only [Act.put, List.setIfInBounds_toArray, List.set_cons_zero, List.set_cons_succ]
                              refine walkO_take (o := _) (v := ?_) (by rw [HOPS.out]; simp only [List.getElem?_toArray, List.getElem?_cons_succ, List.getElem?_cons_zero]; exact rfl) (Or.inl ⟨by rw [HOPS.out]; rfl, ?_⟩) ?_
                              rotate_left
                              · (intro w hSw; have hSx := HFA.out _ hSw; (try dsimp only at hSx); clear hSw; go_simp) <;> (with_reducible rfl)
                              simp only [Act.put, List.setIfInBounds_toArray, List.set_cons_zero, List.set_cons_succ]
                              refine walkO_take (o := _) (v := ?_) (by rw [HOPS.out]; simp only [List.getElem?_toArray, List.getElem?_cons_succ, List.getElem?_cons_zero]; exact rfl) (Or.inl ⟨by rw [HOPS.out]; rfl, ?_⟩) ?_
                              rotate_left
                              · (intro w hSw; have hSx := HFA.out _ hSw; (try dsimp only at hSx); clear hSw; go_simp) <;> (with_reducible rfl)
                              simp only [Act.put, List.setIfInBounds_toArray, List.set_cons_zero, List.set_cons_succ]
                              refine walkO_take (o := _) (v := ?_) (by rw [HOPS.out]; simp only [List.getElem?_toArray, List.getElem?_cons_succ, List.getElem?_cons_zero]; exact rfl) (Or.inl ⟨by rw [HOPS.out]; rfl, ?_⟩) ?_
                              rotate_left
                              · (intro w hSw; have hSx := HFA.out _ hSw; (try dsimp only at hSx); clear hSw; go_simp) <;> (with_reducible rfl)
                              simp only [Act.put, List.setIfInBounds_toArray, List.set_cons_zero, List.set_cons_succ]
                              refine walkO_take (o := _) (v := ?_) (by rw [HOPS.out]; simp only [List.getElem?_toArray, List.getElem?_cons_succ, List.getElem?_cons_zero]; exact rfl) (Or.inl ⟨by rw [HOPS.out]; rfl, ?_⟩) ?_
                              rotate_left
                              · (intro w hSw; have hSx := HFA.out _ hSw; (try dsimp only at hSx); clear hSw; go_simp) <;> (with_reducible rfl)
                              simp only [Act.put, List.setIfInBounds_toArray, List.set_cons_zero, List.set_cons_succ]
                              refine walkO_take (o := _) (v := ?_) (by rw [HOPS.out]; simp only [List.getElem?_toArray, List.getElem?_cons_succ, List.getElem?_cons_zero]; exact rfl) (Or.inl ⟨by rw [HOPS.out]; rfl, ?_⟩) ?_
                              rotate_left
                              · (intro w hSw; have hSx := HFA.out _ hSw; (try dsimp only at hSx); clear hSw; go_simp) <;> (with_reducible rfl)
                              simp only [Act.put, List.setIfInBounds_toArray, List.set_cons_zero, List.set_cons_succ]
                              refine walkO_take (o := _) (v := ?_) (by rw [HOPS.out]; simp only [List.getElem?_toArray, List.getElem?_cons_succ, List.getElem?_cons_zero]; exact rfl) (Or.inl ⟨by rw [HOPS.out]; rfl, ?_⟩) ?_
                              rotate_left
                              · (intro w hSw; have hSx := HFA.out _ hSw; (try dsimp only at hSx); clear hSw; go_simp) <;> (with_reducible rfl)
                              simp only [Act.put, List.setIfInBounds_toArray, List.set_cons_zero, List.set_cons_succ]
                              refine walkO_take (o := _) (v := ?_) (by rw [HOPS.out]; simp only [List.getElem?_toArray, List.getElem?_cons_succ, List.getElem?_cons_zero]; exact rfl) (Or.inl ⟨by rw [HOPS.out]; rfl, ?_⟩) ?_
                              rotate_left
                              · (intro w hSw; have hSx := HFA.out _ hSw; (try dsimp only at hSx); clear hSw; go_simp) <;> (with_reducible rfl)
                              simp only [Act.put, List.setIfInBounds_toArray, List.set_cons_zero, List.set_cons_succ]
                              refine walkO_take (o := _) (v := ?_) (by rw [HOPS.out]; simp only [List.getElem?_toArray, List.getElem?_cons_succ, List.getElem?_cons_zero]; exact rfl) (Or.inl ⟨rfl, ?_⟩) ?_
                              rotate_left
                              · (intro w hSw; have hSx := HFA.out _ hSw; (try dsimp only at hSx); clear hSw; go_simp) <;> (with_reducible rfl)
                              simp only [Act.put, List.setIfInBounds_toArray, List.set_cons_zero, List.set_cons_succ]
                              refine walkO_done ?_
                              clear HOPS OPS
                              go_wp2_with fail
                              go_meet
                              exact ⟨false, rfl, fun h => by simp at h, fun h => absurd h HSS.out, HF27.out.drew⟩
                        · have HEE := Lib.hid hE
                          have hEi : ((a0 : Int) + sz == (Z.length : Int)) = false := by rw [beq_eq_false_iff_ne]; omega
                          clear hE
                          go_wp2_with fail
                          have fd : Fr [] wd wd.drew := (Fr.refl _ _).drew
                          refine wp_region_order [(0, true), (1, true), (2, true), (3, true), (4, true), (5, true), (6, true), (7, true), (8, true), (9, true), (10, true), (11, true), (12, true), (13, true), (14, true), (15, true), (16, true), (17, true), (18, true)] (fun w' => Fr [] wd w') (by kernel_rfl) (by kernel_rfl) fd ?_
                          intro OPS HOPS
                          have hops := HOPS.out
                          try simp only [List.append_eq, List.cons_append, List.nil_append] at hops
                          replace HOPS := Lib.hid hops
                          clear hops
                          refine walkO_take (o := _) (v := ?_) (by rw [HOPS.out]; simp only [List.getElem?_toArray, List.getElem?_cons_succ, List.getElem?_cons_zero]; exact rfl) (Or.inl ⟨rfl, ?_⟩) ?_
                          rotate_left
                          · (intro w hSw; have hSx := HFA.out _ hSw; (try dsimp only at hSx); clear hSw; go_simp) <;> (with_reducible rfl)
                          simp only [Act.put, List.setIfInBounds_toArray, List.set_cons_zero, List.set_cons_succ]
                          refine walkO_take (o := _) (v := ?_) (by rw [HOPS.out]; simp only [List.getElem?_toArray, List.getElem?_cons_succ, List.getElem?_cons_zero]; exact rfl) (Or.inl ⟨rfl, ?_⟩) ?_
                          rotate_left
                          · (intro w hSw; have hSx := HFA.out _ hSw; (try dsimp only at hSx); clear hSw; go_simp) <;> (with_reducible rfl)
                          simp only [Act.put, List.setIfInBounds_toArray, List.set_cons_zero, List.set_cons_succ]
                          refine walkO_take (o := _) (v := ?_) (by rw [HOPS.out]; simp only [List.getElem?_toArray, List.getElem?_cons_succ, List.getElem?_cons_zero]; exact rfl) (Or.inl ⟨rfl, ?_⟩) ?_
                          rotate_left
                          · (intro w hSw; have hSx := HFA.out _ hSw; (try dsimp only at hSx); clear hSw; go_simp) <;> (with_reducible rfl)
                          simp only [Act.put, List.setIfInBounds_toArray, List.set_cons_zero, List.set_cons_succ]
                          refine walkO_take (o := _) (v := ?_) (by rw [HOPS.out]; simp only [List.getElem?_toArray, List.getElem?_cons_succ, List.getElem?_cons_zero]; exact rfl) (Or.inl ⟨rfl, ?_⟩) ?_
                          rotate_left
                          · (intro w hSw; have hSx := HFA.out _ hSw; (try dsimp only at hSx); clear hSw; go_simp) <;> (with_reducible rfl)
                          simp only [Act.put, List.setIfInBounds_toArray, List.set_cons_zero, List.set_cons_succ]
                          refine walkO_take (o := _) (v := ?_) (by rw [HOPS.out]; simp only [List.getElem?_toArray, List.getElem?_cons_succ, List.getElem?_cons_zero]; exact rfl) (Or.inl ⟨rfl, ?_⟩) ?_
                          rotate_left
                          · (intro w hSw; have hSx := HFA.out _ hSw; (try dsimp only at hSx); clear hSw; go_simp) <;> (with_reducible rfl)
                          simp only [Act.put, List.setIfInBounds_toArray, List.set_cons_zero, List.set_cons_succ]
                          refine walkO_take (o := _) (v := ?_) (by rw [HOPS.out]; simp only [List.getElem?_toArray, List.getElem?_cons_succ, List.getElem?_cons_zero]; exact rfl) (Or.inl ⟨rfl, ?_⟩) ?_
                          rotate_left
                          · (intro w hSw; have hSx := HFA.out _ hSw; (try dsimp only at hSx); clear hSw; go_simp) <;> (with_reducible rfl)
                          simp only [Act.put, List.setIfInBounds_toArray, List.set_cons_zero, List.set_cons_succ]
                          refine walkO_take (o := _) (v := ?_) (by rw [HOPS.out]; simp only [List.getElem?_toArray, List.getElem?_cons_succ, List.getElem?_cons_zero]; exact rfl) (Or.inl ⟨rfl, ?_⟩) ?_
                          rotate_left
                          · (intro w hSw; have hSx := HFA.out _ hSw; (try dsimp only at hSx); clear hSw; go_simp) <;> (with_reducible rfl)
                          simp only [Act.put, List.setIfInBounds_toArray, List.set_cons_zero, List.set_cons_succ]
                          refine walkO_take (o := _) (v := ?_) (by rw [HOPS.out]; simp only [List.getElem?_toArray, List.getElem?_cons_succ, List.getElem?_cons_zero]; exact rfl) (Or.inl ⟨rfl, ?_⟩) ?_
                          rotate_left
                          · (intro w hSw; have hSx := HFA.out _ hSw; (try dsimp only at hSx); clear hSw; go_simp) <;> (with_reducible rfl)
                          simp only [Act.put, List.setIfInBounds_toArray, List.set_cons_zero, List.set_cons_succ]
                          refine walkO_take (o := _) (v := ?_) (by rw [HOPS.out]; simp only [List.getElem?_toArray, List.getElem?_cons_succ, List.getElem?_cons_zero]; exact rfl) (Or.inl ⟨rfl, ?_⟩) ?_
                          rotate_left
                          · (intro w hSw; have hSx := HFA.out _ hSw; (try dsimp only at hSx); clear hSw; go_simp) <;> (with_reducible rfl)
                          simp only [Act.put, List.setIfInBounds_toArray, List.set_cons_zero, List.set_cons_succ]
                          refine walkO_take (o := _) (v := ?_) (by rw [HOPS.out]; simp only [List.getElem?_toArray, List.getElem?_cons_succ, List.getElem?_cons_zero]; exact rfl) (Or.inl ⟨rfl, ?_⟩) ?_
                          rotate_left
                          · (intro w hSw; have hSx := HFA.out _ hSw; (try dsimp only at hSx); clear hSw; go_simp) <;> (with_reducible rfl)
                          simp only [Act.put, List.setIfInBounds_toArray, List.set_cons_zero, List.set_cons_succ]
                          refine walkO_take (o := _) (v := ?_) (by rw [HOPS.out]; simp only [List.getElem?_toArray, List.getElem?_cons_succ, List.getElem?_cons_zero]; exact rfl) (Or.inl ⟨rfl, ?_⟩) ?_
                          rotate_left
                          · (intro w hSw; have hSx := HFA.out _ hSw; (try dsimp only at hSx); clear hSw; go_simp) <;> (with_reducible rfl)
                          simp only [Act.put, List.setIfInBounds_toArray, List.set_cons_zero, List.set_cons_succ]
                          refine walkO_take (o := _) (v := undef) (by rw [HOPS.out]; simp only [List.getElem?_toArray, List.getElem?_cons_succ, List.getElem?_cons_zero]; exact rfl) (Or.inr ⟨by rw [HOPS.out]; rfl, rfl⟩) ?_
                          simp only [Act.put, List.setIfInBounds_toArray, List.set_cons_zero, List.set_cons_succ]
                          refine walkO_take (o := _) (v := undef) (by rw [HOPS.out]; simp only [List.getElem?_toArray, List.getElem?_cons_succ, List.getElem?_cons_zero]; exact rfl) (Or.inr ⟨by rw [HOPS.out]; rfl, rfl⟩) ?_
                          simp only [Act.put, List.setIfInBounds_toArray, List.set_cons_zero, List.set_cons_succ]
                          refine walkO_take (o := _) (v := undef) (by rw [HOPS.out]; simp only [List.getElem?_toArray, List.getElem?_cons_succ, List.getElem?_cons_zero]; exact rfl) (Or.inr ⟨by rw [HOPS.out]; rfl, rfl⟩) ?_
                          simp only [Act.put, List.setIfInBounds_toArray, List.set_cons_zero, List.set_cons_succ]
                          refine walkO_take (o := _) (v := undef) (by rw [HOPS.out]; simp only [List.getElem?_toArray, List.getElem?_cons_succ, List.getElem?_cons_zero]; exact rfl) (Or.inr ⟨by rw [HOPS.out]; rfl, rfl⟩) ?_
                          simp only [Act.put, List.setIfInBounds_toArray, List.set_cons_zero, List.set_cons_succ]
                          refine walkO_take (o := _) (v := undef) (by rw [HOPS.out]; simp only [List.getElem?_toArray, List.getElem?_cons_succ, List.getElem?_cons_zero]; exact rfl) (Or.inr ⟨by rw [HOPS.out]; rfl, rfl⟩) ?_
                          simp only [Act.put, List.setIfInBounds_toArray, List.set_cons_zero, List.set_cons_succ]
                          refine walkO_take (o := _) (v := undef) (by rw [HOPS.out]; simp only [List.getElem?_toArray, List.getElem?_cons_succ, List.getElem?_cons_zero]; exact rfl) (Or.inr ⟨by rw [HOPS.out]; rfl, rfl⟩) ?_
                          simp only [Act.put, List.setIfInBounds_toArray, List.set_cons_zero, List.set_cons_succ]
                          refine walkO_take (o := _) (v := undef) (by rw [HOPS.out]; simp only [List.getElem?_toArray, List.getElem?_cons_succ, List.getElem?_cons_zero]; exact rfl) (Or.inr ⟨by rw [HOPS.out]; rfl, rfl⟩) ?_
                          simp only [Act.put, List.setIfInBounds_toArray, List.set_cons_zero, List.set_cons_succ]
                          refine walkO_take (o := _) (v := ?_) (by rw [HOPS.out]; simp only [List.getElem?_toArray, List.getElem?_cons_succ, List.getElem?_cons_zero]; exact rfl) (Or.inl ⟨rfl, ?_⟩) ?_
                          rotate_left
                          · (intro w hSw; have hSx := HFA.out _ hSw; (try dsimp only at hSx); clear hSw; go_simp) <;> (with_reducible rfl)
                          simp only [Act.put, List.setIfInBounds_toArray, List.set_cons_zero, List.set_cons_succ]
                          refine walkO_done ?_
                          clear HOPS OPS
                          go_wp2_with fail
                          go_meet
                          exact ⟨false, rfl, fun h => by simp at h, fun h => absurd (HSZ.out.2.2.1 h) HEE.out, HF27.out.drew⟩
                    case rest =>
                      obtain ⟨bb, rfl, hb1, hb2, fx⟩ := hcut
                      have HBB := Lib.hid (And.intro hb1 hb2)
                      have HFX := Lib.hid fx
                      clear hb1 hb2 fx c00 c01 c10 c11 w0_ w1_ w2_ w3_ w4_
                      go_upto_if 178 with fail
                      go_cut [24] (fun v wy => ∃ cd : Int, v = .int .i64 cd ∧ (cd = 0 ∨ cd = 13 ∧ a0 + sz = Z.length) ∧ (sz = 0 → cd = 13) ∧ Hid (Fr [] w7 wy))
                      case first =>
                        as_aux_lemma =>
                          cases bb with
                          | true =>
                            have HB1 := Lib.hid (HBB.out.1 rfl)
                            go_wp2_with fail
                            go_meet
                            exact ⟨13, rfl, .inr ⟨rfl, HB1.out⟩, fun _ => rfl, HFX⟩
                          | false =>
                            have HB1 : Hid (sz = 0 → False) := Lib.hid (fun h => by have h2 := HBB.out.2 h; cases h2)
                            go_wp2_with fail
                            go_meet
                            exact ⟨0, rfl, .inl rfl, fun h => (HB1.out h).elim, HFX⟩
                      case rest =>
                        obtain ⟨cd, rfl, hcd1, hcd2, HFY⟩ := hcut
                        rename World => w8
                        have hz8 := HFY.out.size
                        have HMX := Lib.hid (HM7.out.keep0 HFY.out)
                        have HBX := Lib.hid (HB7.out.keep0 HFY.out)
                        have HGX := Lib.hid (HG7.out.then0 HFY.out)
                        have HWX := Lib.hid (HFY.out.keep HW7.out (by simp))
                        clear HFX HFY HBB HM7 HB7 HW7
                        have hge : gotE s.t0 ((Z.drop a0).take sz) cd = 0 := by obtain ⟨_, g, _⟩ := HR.out.r0; exact (g.read HMX.out.sp.h0.ok hc hk1 HSZ.out.1 HSZ.out.2.1 hcd1 hcd2).1
                        have HRN := Lib.hid (HR.out.turn0 (s' := gotS0 s ((Z.drop a0).take sz) cd) (a' := a0 + sz) hni rfl rfl (.inl rfl) (gotT_ok HMX.out.sp.h0.ok _ _) (fun m g => (g.read HMX.out.sp.h0.ok hc hk1 HSZ.out.1 HSZ.out.2.1 hcd1 hcd2).2))
                        have HAR := Lib.hid fun (w' : World) (f : Fr [] w w') => (HZN.out w' f).cut (lo := a0) (k := sz) HSZ.out.1
                        have HCC := Lib.hid fun w' (f : Fr [] w8 w') => got_sp0 (pc := zc - a0) (HMX.out.sp.keep0 f) (big_ok22 HRD.out.1) (HAR.out w' (HGX.out.then0 f)).sl (HAR.out w' (HGX.out.then0 f)).len_eq (small_ok22 (HAR.out w' (HGX.out.then0 f)).len_eq HSZ.out.2.2.2) cd hge rfl
                        have hlo := HMX.out.lo
                        have hbl : ∀ x ∈ [b, W, b0, b1], w.heap.size ≤ x ∧ x < Q := by intro x hx; simp at hx; omega
                        have hKBQ : Q + 4 ≤ KB := by omega
                        have hzc : Z.length ≤ zc := (HZN.out _ HGX.out).le
                        have HRUN := Lib.hid fun (w' : World) => (by have h := run_cutp (pa := za) (plen := Z.length) (pcap := zc) (l := a0) (h := a0 + sz) (by omega) (by have := HSZ.out.1; omega) w'; rw [Nat.add_sub_cancel_left] at h; exact h : (Instr.slice 22 (.slice za Z.length zc) (some (.int .i64 a0)) (some (.int .i64 ((a0 : Int) + (sz : Int)))) none).run Try.prog w' = .ok (.slice (cutp za zc a0) sz (zc - a0)) w')
                        have HFA := Lib.hid fun (w' : World) (f : Fr [b, W, b0, b1] w8 w') => (show w'.cell? ⟨KB, 1, none⟩ = some (.int .i64 0) ∧ w'.cell? ⟨Q, 0, none⟩ = some (.slice za Z.length zc) ∧ w'.cell? ⟨Q + 1, 0, none⟩ = some (.int .i64 a0) ∧ (Instr.slice 22 (.slice za Z.length zc) (some (.int .i64 a0)) (some (.int .i64 ((a0 : Int) + (sz : Int)))) none).run Try.prog w' = .ok (.slice (cutp za zc a0) sz (zc - a0)) w' from ⟨cell_of (f.keep HWX.out (fun hm => by have := (hbl _ hm).2; omega)), cell_of (f.keep HBX.out.q0 (fun hm => by have := (hbl _ hm).2; omega)), cell_of (f.keep HBX.out.q1 (fun hm => by have := (hbl _ hm).2; omega)), HRUN.out w'⟩)
                        have HEC := Lib.hid (Go.Proofs.enters_of Try.func33 (by kernel_rfl) rfl)
                        have HBL := Lib.hid hbl
                        clear hlo hbl hc hk1 hts hcd1 hcd2 hge HAR HRUN hzc
                        go_wp2_with fail
                        have fd : Fr [] w8 w8.drew := (Fr.refl _ _).drew
                        have fdS : Fr [b, W, b0, b1] w8 w8.drew := fd.trans (Fr.refl _ _ : Fr [b, W, b0, b1] _ _) (by simp) (fun x hx => .inl hx)
                        refine wp_region_order [(0, true), (1, true), (2, true), (3, true), (4, true), (5, true), (6, true), (7, true), (8, true), (9, true), (10, true), (11, true), (12, true), (13, true), (14, true), (15, true), (16, true), (17, true), (18, true), (19, true), (20, false), (21, true), (22, true)] (fun w' => Fr [b, W, b0, b1] w8 w') (by kernel_rfl) (by kernel_rfl) fdS ?_
                        intro OPS HOPS
                        have hops := HOPS.out
                        try simp only [List.append_eq, List.cons_append, List.nil_append] at hops
                        replace HOPS := Lib.hid hops
                        clear hops
                        refine walkO_take (o := _) (v := ?_) (by rw [HOPS.out]; simp only [List.getElem?_toArray, List.getElem?_cons_succ, List.getElem?_cons_zero]; exact rfl) (Or.inl ⟨rfl, ?_⟩) ?_
                        rotate_left
                        · (intro w hSw; have hSx := HFA.out _ hSw; (try dsimp only at hSx); clear hSw; go_simp) <;> (with_reducible rfl)
                        simp only [Act.put, List.setIfInBounds_toArray, List.set_cons_zero, List.set_cons_succ]
                        refine walkO_take (o := _) (v := ?_) (by rw [HOPS.out]; simp only [List.getElem?_toArray, List.getElem?_cons_succ, List.getElem?_cons_zero]; exact rfl) (Or.inl ⟨rfl, ?_⟩) ?_
                        rotate_left
                        · (intro w hSw; have hSx := HFA.out _ hSw; (try dsimp only at hSx); clear hSw; go_simp) <;> (with_reducible rfl)
                        simp only [Act.put, List.setIfInBounds_toArray, List.set_cons_zero, List.set_cons_succ]
                        refine walkO_take (o := _) (v := ?_) (by rw [HOPS.out]; simp only [List.getElem?_toArray, List.getElem?_cons_succ, List.getElem?_cons_zero]; exact rfl) (Or.inl ⟨rfl, ?_⟩) ?_
                        rotate_left
                        · (intro w hSw; have hSx := HFA.out _ hSw; (try dsimp only at hSx); clear hSw; go_simp) <;> (with_reducible rfl)
                        simp only [Act.put, List.setIfInBounds_toArray, List.set_cons_zero, List.set_cons_succ]
                        refine walkO_take (o := _) (v := ?_) (by rw [HOPS.out]; simp only [List.getElem?_toArray, List.getElem?_cons_succ, List.getElem?_cons_zero]; exact rfl) (Or.inl ⟨rfl, ?_⟩) ?_
                        rotate_left
                        · (intro w hSw; have hSx := HFA.out _ hSw; (try dsimp only at hSx); clear hSw; go_simp) <;> (with_reducible rfl)
                        simp only [Act.put, List.setIfInBounds_toArray, List.set_cons_zero, List.set_cons_succ]
                        refine walkO_take (o := _) (v := ?_) (by rw [HOPS.out]; simp only [List.getElem?_toArray, List.getElem?_cons_succ, List.getElem?_cons_zero]; exact rfl) (Or.inl ⟨rfl, ?_⟩) ?_
                        rotate_left
                        · (intro w hSw; have hSx := HFA.out _ hSw; (try dsimp only at hSx); clear hSw; go_simp) <;> (with_reducible rfl)
                        simp only [Act.put, List.setIfInBounds_toArray, List.set_cons_zero, List.set_cons_succ]
                        refine walkO_take (o := _) (v := ?_) (by rw [HOPS.out]; simp only [List.getElem?_toArray, List.getElem?_cons_succ, List.getElem?_cons_zero]; exact rfl) (Or.inl ⟨by rw [HOPS.out]; rfl, ?_⟩) ?_
                        rotate_left
                        · (intro w hSw; have hSx := HFA.out _ hSw; (try dsimp only at hSx); clear hSw; go_simp) <;> (with_reducible rfl)
                        simp only [Act.put, List.setIfInBounds_toArray, List.set_cons_zero, List.set_cons_succ]
                        refine walkO_take (o := _) (v := ?_) (by rw [HOPS.out]; simp only [List.getElem?_toArray, List.getElem?_cons_succ, List.getElem?_cons_zero]; exact rfl) (Or.inl ⟨by rw [HOPS.out]; rfl, ?_⟩) ?_
                        rotate_left
                        · (intro w hSw; have hSx := HFA.out _ hSw; (try dsimp only at hSx); clear hSw; go_simp) <;> (with_reducible rfl)
                        simp only [Act.put, List.setIfInBounds_toArray, List.set_cons_zero, List.set_cons_succ]
                        refine walkO_take (o := _) (v := ?_) (by rw [HOPS.out]; simp only [List.getElem?_toArray, List.getElem?_cons_succ, List.getElem?_cons_zero]; exact rfl) (Or.inl ⟨by rw [HOPS.out]; rfl, ?_⟩) ?_
                        rotate_left
                        · (intro w hSw; have hSx := HFA.out _ hSw; (try dsimp only at hSx); clear hSw; go_simp) <;> (with_reducible rfl)
                        simp only [Act.put, List.setIfInBounds_toArray, List.set_cons_zero, List.set_cons_succ]
                        refine walkO_take (o := _) (v := ?_) (by rw [HOPS.out]; simp only [List.getElem?_toArray, List.getElem?_cons_succ, List.getElem?_cons_zero]; exact rfl) (Or.inl ⟨by rw [HOPS.out]; rfl, ?_⟩) ?_
                        rotate_left
                        · (intro w hSw; have hSx := HFA.out _ hSw; (try dsimp only at hSx); clear hSw; go_simp) <;> (with_reducible rfl)
                        simp only [Act.put, List.setIfInBounds_toArray, List.set_cons_zero, List.set_cons_succ]
                        refine walkO_take (o := _) (v := ?_) (by rw [HOPS.out]; simp only [List.getElem?_toArray, List.getElem?_cons_succ, List.getElem?_cons_zero]; exact rfl) (Or.inl ⟨by rw [HOPS.out]; rfl, ?_⟩) ?_
                        rotate_left
                        · (intro w hSw; have hSx := HFA.out _ hSw; (try dsimp only at hSx); clear hSw; go_simp) <;> (with_reducible rfl)
                        simp only [Act.put, List.setIfInBounds_toArray, List.set_cons_zero, List.set_cons_succ]
                        refine walkO_take (o := _) (v := ?_) (by rw [HOPS.out]; simp only [List.getElem?_toArray, List.getElem?_cons_succ, List.getElem?_cons_zero]; exact rfl) (Or.inl ⟨by rw [HOPS.out]; rfl, ?_⟩) ?_
                        rotate_left
                        · (intro w hSw; have hSx := HFA.out _ hSw; (try dsimp only at hSx); clear hSw; go_simp) <;> (with_reducible rfl)
                        simp only [Act.put, List.setIfInBounds_toArray, List.set_cons_zero, List.set_cons_succ]
                        refine walkO_take (o := _) (v := ?_) (by rw [HOPS.out]; simp only [List.getElem?_toArray, List.getElem?_cons_succ, List.getElem?_cons_zero]; exact rfl) (Or.inl ⟨by rw [HOPS.out]; rfl, ?_⟩) ?_
                        rotate_left
                        · (intro w hSw; have hSx := HFA.out _ hSw; (try dsimp only at hSx); clear hSw; go_simp) <;> (with_reducible rfl)
                        simp only [Act.put, List.setIfInBounds_toArray, List.set_cons_zero, List.set_cons_succ]
                        refine walkO_take (o := _) (v := ?_) (by rw [HOPS.out]; simp only [List.getElem?_toArray, List.getElem?_cons_succ, List.getElem?_cons_zero]; exact rfl) (Or.inl ⟨by rw [HOPS.out]; rfl, ?_⟩) ?_
                        rotate_left
                        · (intro w hSw; have hSx := HFA.out _ hSw; (try dsimp only at hSx); clear hSw; go_simp) <;> (with_reducible rfl)
                        simp only [Act.put, List.setIfInBounds_toArray, List.set_cons_zero, List.set_cons_succ]
                        refine walkO_take (o := _) (v := ?_) (by rw [HOPS.out]; simp only [List.getElem?_toArray, List.getElem?_cons_succ, List.getElem?_cons_zero]; exact rfl) (Or.inl ⟨by rw [HOPS.out]; rfl, ?_⟩) ?_
                        rotate_left
                        · (intro w hSw; have hSx := HFA.out _ hSw; (try dsimp only at hSx); clear hSw; go_simp) <;> (with_reducible rfl)
                        simp only [Act.put, List.setIfInBounds_toArray, List.set_cons_zero, List.set_cons_succ]
                        refine walkO_take (o := _) (v := ?_) (by rw [HOPS.out]; simp only [List.getElem?_toArray, List.getElem?_cons_succ, List.getElem?_cons_zero]; exact rfl) (Or.inl ⟨by rw [HOPS.out]; rfl, ?_⟩) ?_
                        rotate_left
                        · (intro w hSw; have hSx := HFA.out _ hSw; (try dsimp only at hSx); clear hSw; go_simp) <;> (with_reducible rfl)
                        simp only [Act.put, List.setIfInBounds_toArray, List.set_cons_zero, List.set_cons_succ]
                        refine walkO_take (o := _) (v := ?_) (by rw [HOPS.out]; simp only [List.getElem?_toArray, List.getElem?_cons_succ, List.getElem?_cons_zero]; exact rfl) (Or.inl ⟨by rw [HOPS.out]; rfl, ?_⟩) ?_
                        rotate_left
                        · (intro w hSw; have hSx := HFA.out _ hSw; (try dsimp only at hSx); clear hSw; go_simp) <;> (with_reducible rfl)
                        simp only [Act.put, List.setIfInBounds_toArray, List.set_cons_zero, List.set_cons_succ]
                        refine walkO_take (o := _) (v := ?_) (by rw [HOPS.out]; simp only [List.getElem?_toArray, List.getElem?_cons_succ, List.getElem?_cons_zero]; exact rfl) (Or.inl ⟨by rw [HOPS.out]; rfl, ?_⟩) ?_
                        rotate_left
                        · (intro w hSw; have hSx := HFA.out _ hSw; (try dsimp only at hSx); clear hSw; go_simp) <;> (with_reducible rfl)
                        simp only [Act.put, List.setIfInBounds_toArray, List.set_cons_zero, List.set_cons_succ]
                        refine walkO_take (o := _) (v := ?_) (by rw [HOPS.out]; simp only [List.getElem?_toArray, List.getElem?_cons_succ, List.getElem?_cons_zero]; exact rfl) (Or.inl ⟨by rw [HOPS.out]; rfl, ?_⟩) ?_
                        rotate_left
                        · (intro w hSw; have hSx := HFA.out _ hSw; (try dsimp only at hSx); clear hSw; go_simp) <;> (with_reducible rfl)
                        simp only [Act.put, List.setIfInBounds_toArray, List.set_cons_zero, List.set_cons_succ]
                        refine walkO_take (o := _) (v := ?_) (by rw [HOPS.out]; simp only [List.getElem?_toArray, List.getElem?_cons_succ, List.getElem?_cons_zero]; exact rfl) (Or.inl ⟨by rw [HOPS.out]; rfl, ?_⟩) ?_
                        rotate_left
                        · (intro w hSw; have hSx := HFA.out _ hSw; (try dsimp only at hSx); clear hSw; go_simp) <;> (with_reducible rfl)
                        simp only [Act.put, List.setIfInBounds_toArray, List.set_cons_zero, List.set_cons_succ]
                        refine walkO_take (o := _) (v := ?_) (by rw [HOPS.out]; simp only [List.getElem?_toArray, List.getElem?_cons_succ, List.getElem?_cons_zero]; exact rfl) (Or.inl ⟨by rw [HOPS.out]; rfl, ?_⟩) ?_
                        rotate_left
                        · (intro w hSw; have hSx := HFA.out _ hSw; (try dsimp only at hSx); clear hSw; go_simp) <;> (with_reducible rfl)
                        simp only [Act.put, List.setIfInBounds_toArray, List.set_cons_zero, List.set_cons_succ]
                        refine walkO_call (o := _) (by rw [HOPS.out]; simp only [List.getElem?_toArray, List.getElem?_cons_succ, List.getElem?_cons_zero]; exact rfl) (fun K HK => ?_)
                        refine step_call (by rw [HOPS.out]; rfl) 33 #[(.tmp 184), (.tmp 185), (.tmp 197), (.tmp 198)] #[68, 3, 22, 23] rfl HEC.out #[.pointer (some ⟨b, 0, none⟩), .int .i64 0, .slice (cutp za zc a0) sz (zc - a0), .int .i64 cd] (by simp [Act.eval]) (HCC.out _ fd) ?_
                        rintro e w9 ⟨rfl, f9', hS9⟩
                        have f9 : Fr [b, W, b0, b1] w8 w9 := fdS.trans f9' (fun x hx => .inl hx) (fun x hx => .inl hx)
                        refine ⟨_, rfl, ?_⟩
                        refine HK.out (fun w' => Fr [b, W, b0, b1] w8 w') _ _ (fun _ h => h) (f9) ?_
                        clear HK K
                        simp only [Act.put, List.setIfInBounds_toArray, List.set_cons_zero, List.set_cons_succ]
                        refine walkO_take (o := _) (v := ?_) (by rw [HOPS.out]; simp only [List.getElem?_toArray, List.getElem?_cons_succ, List.getElem?_cons_zero]; exact rfl) (Or.inl ⟨by rw [HOPS.out]; rfl, ?_⟩) ?_
                        rotate_left
                        · (intro w hSw; have hSx := HFA.out _ hSw; (try dsimp only at hSx); clear hSw; go_simp) <;> (with_reducible rfl)
                        simp only [Act.put, List.setIfInBounds_toArray, List.set_cons_zero, List.set_cons_succ]
                        refine walkO_take (o := _) (v := ?_) (by rw [HOPS.out]; simp only [List.getElem?_toArray, List.getElem?_cons_succ, List.getElem?_cons_zero]; exact rfl) (Or.inl ⟨rfl, ?_⟩) ?_
                        rotate_left
                        · (intro w hSw; have hSx := HFA.out _ hSw; (try dsimp only at hSx); clear hSw; go_simp) <;> (with_reducible rfl)
                        simp only [Act.put, List.setIfInBounds_toArray, List.set_cons_zero, List.set_cons_succ]
                        refine walkO_done ?_
                        clear HOPS OPS
                        have hm9 := HMX.out.call f9 hS9
                        have hb9 := HBX.out.keep f9 (fun x hx => .inl (HBL.out x hx).2)
                        have g9 := HGX.out.trans f9 (U := []) (by simp) (fun x hx => .inr (HBL.out x hx).1)
                        obtain ⟨_, _, c10, c11, _, _, _, _⟩ := hb9.cells
                        obtain ⟨_, y1, _, _⟩ := hb9.free 0
                        have hb10 := hb9.set10 (a0 + sz)
                        have hm10 := hm9.box (k := 1) (i := 0) (by omega) (.int .i64 ((a0 + sz : Nat) : Int))
                        have f10 : Fr [Q + 1] w9 (w9.setCell ⟨Q + 1, 0, none⟩ (.int .i64 ((a0 + sz : Nat) : Int))) := (Fr.refl _ _).setCell (.inl (by simp)) _
                        have hwQ : w.heap.size ≤ Q := by have := HMX.out.lo; omega
                        have H10 := Lib.hid (And.intro hm10 (And.intro hb10 (g9.trans f10 (U := []) (by simp) (fun x hx => .inr (by simp at hx; omega)))))
                        have hws2 : IntKind.i64.wrap ((a0 : Int) + (sz : Int)) = ((a0 + sz : Nat) : Int) := by rw [hws]; rfl
                        clear hws hm9 hb9 g9 hb10 hm10 f10 f9 f9' fd fdS hS9 HFA HCC HEC
                        go_wp2_with fail
                        go_roundw
                        case rel => exact ⟨n + 1, gotS0 s ((Z.drop a0).take sz) cd, N0, N1, u0, u1, O0, O1, a0 + sz, a1, s0, s1, by omega, by go_num, Lib.hid H10.out.1, Lib.hid H10.out.2.1, Lib.hid HRN.out, Lib.hid H10.out.2.2⟩
                        case measure => simp [intOf]; omega
                · as_aux_lemma =>
                    injection hx with hx1 hx2 hx3 hx4 hx5
                    subst hx1 hx4
                    have hsd : sd = 1 := by rw [hx2]; rfl
                    subst hsd
                    obtain ⟨d, hdd⟩ : ∃ d, s.t0.s = d := ⟨_, rfl⟩
                    have hdl : 0 < s.t0.s.length := List.length_pos_iff.2 hts
                    obtain ⟨z2, hz3⟩ : ∃ z2 : Nat, min z s.t0.s.length = z2 := ⟨_, rfl⟩
                    have hmin : min (z : Int) (s.t0.s.length : Int) = (z2 : Int) := by omega
                    have hz4 : 1 ≤ z2 := by omega
                    have hz5_ : z2 ≤ s.t0.s.length := by omega
                    have hw0 : wroteE s.t0 z2 0 = 0 := by obtain ⟨_, g, _⟩ := HR.out.r0; exact (g.write hc hk1 hz4 hz5_).1
                    have HRN := Lib.hid (HR.out.turn0 (s' := wroteS0 s z2 0) (O' := O1 ++ s.t0.s.take z2) hni rfl rfl (.inl rfl) (by have h := (HM7.out.sp.h0.ok); exact wroteT_ok h _ _) (fun m g => (g.write hc hk1 hz4 hz5_).2))
                    have HCC := Lib.hid (wrote_sp0 HM7.out.sp (by have := HRD.out; omega) z2 0 hw0 rfl)
                    obtain ⟨ra, rc, rfl, _⟩ := Ow.formC HM7.out.r1
                    have hol : O1.length ≤ 200 ∧ s.t0.s.length ≤ 200 := by obtain ⟨_, g, _⟩ := HR.out.r0; have h1 := g.olen; have h2 := g.at_le; omega
                    have HDL := Lib.hid (And.intro hz5_ hol)
                    have hwo : IntKind.i64.wrap 1 = 1 := by decide
                    have hx_1 : ¬ ((z2 : Int) < 1) := by omega
                    have hx_2 : ¬ (z2 < 1) := by omega
                    have hx_3 : ¬ (z2 = 0) := by omega
                    generalize s.t0.s = d at *
                    clear hc hk1 hts hx2 hx3 hx5 hw0 hol hdl hz3 hz5_ hdd
                    obtain ⟨w0_, w1_, w2_, w3_, w4_⟩ := WBcells5 HW7.out
                    go_wp2_with fail
                    refine HCC.out.mono ?_
                    rintro e' w8 ⟨rfl, f8, hS8⟩
                    dsimp only
                    have hlo := HM7.out.lo
                    have hbl : ∀ x ∈ [b, W, b0, b1], w.heap.size ≤ x ∧ x < Q := by intro x hx; simp at hx; omega
                    have hKBQ : Q + 4 ≤ KB := by omega
                    have hm8 := Lib.hid (HM7.out.call f8 hS8)
                    have hb8 := Lib.hid (HB7.out.keep f8 (fun x hx => .inl (hbl x hx).2))
                    have g8 := Lib.hid (HG7.out.trans f8 (U := []) (by simp) (fun x hx => .inr (hbl x hx).1))
                    have HW8 := Lib.hid (f8.keep HW7.out (fun hm => by have := (hbl _ hm).2; omega))
                    have HS8 := Lib.hid (sl_keep HGS.out.1 f8 (fun h0 b' o' e hm => by have := (hbl _ hm).2; have := HGB.out b' o' e; omega))
                    clear hlo hbl hS8 f8 HCC w0_ w1_ w2_ w3_ w4_
                    go_wp2_with fail
                    have HOW := Lib.hid hm8.out.r1
                    have hz8 := hm8.out.hq
                    have HSV : Hid (SlV w8 g ((bi (d.take z2)).map (Value.int .u8))) := Lib.hid (by rw [bi_take, List.map_take]; exact (HS8.out.toV).take z2)
                    have H3 : Hid (((bi O1).map (Value.int .u8)).length + z2 ≤ maxLen) := Lib.hid (by have := HDL.out; rw [List.length_map, bi_length]; unfold maxLen; omega)
                    have H4 : Hid ((((bi O1).map (Value.int .u8)).length + z2) * 1 ≤ 140737488355328) := Lib.hid (by have := HDL.out; rw [List.length_map, bi_length]; omega)
                    have H5 : Hid (((bi (d.take z2)).map (Value.int .u8)).length = z2) := Lib.hid (by have := HDL.out; rw [List.length_map, bi_length, List.length_take]; omega)
                    have HO1 := Lib.hid (oneCell_bytes (bi (d.take z2)))
                    have HUU : Hid (Try.prog.underlying 22 = some (.slice 5)) := Lib.hid Try.underlying22
                    have HIN : Hid ((Try.prog.info? 5).map (fun i => (i.zero, i.size, i.bytes)) = some (some (.int .u8 0), 1, 1)) := Lib.hid (by kernel_rfl)
                    have hrb : ∀ x ∈ (Value.slice ra O1.length rc).ownBlock.toList, Q + 4 ≤ x ∧ x < KB := fun x hx => ⟨(HOW.out.lt x (by simpa using hx)).1, HROW.out.2 x (by simpa using hx)⟩
                    have HFA := Lib.hid fun (w' : World) (f : Fr (Value.slice ra O1.length rc).ownBlock.toList w8 w') => (show w'.cell? ⟨Q + 2, 1, none⟩ = some (.slice ra O1.length rc) ∧ w'.cell? ⟨KB, 3, none⟩ = some (.slice g d.length j) ∧ (Instr.slice 22 (.slice g d.length j) none (some (.int .i64 z2)) none).run Try.prog w' = .ok (.slice g z2 j) w' from ⟨cell_of (f.keep hb8.out.q2 (fun hm => by have := (hrb _ hm).1; omega)), cell_of (f.keep HW8.out (fun hm => by have := (hrb _ hm).2; omega)), run_upto HDL.out.1 HGS.out.2 w'⟩)
                    have fd : Fr [] w8 w8.drew := (Fr.refl _ _).drew
                    have fdS : Fr (Value.slice ra O1.length rc).ownBlock.toList w8 w8.drew := fd.trans (Fr.refl _ _ : Fr (Value.slice ra O1.length rc).ownBlock.toList _ _) (by simp) (fun x hx => .inl hx)
                    refine wp_region_till [(0, true), (1, true), (2, true), (3, true), (4, true), (5, true), (6, true), (7, true), (8, true), (9, true), (10, false), (11, true)] [12] (fun w' => Fr (Value.slice ra O1.length rc).ownBlock.toList w8 w') (by kernel_rfl) (by kernel_rfl) fdS ?_
                    intro OPS HOPS
                    have hops := HOPS.out
                    try simp only [List.append_eq, List.cons_append, List.nil_append] at hops
                    replace HOPS := Lib.hid hops
                    clear hops
                    refine walkX_take (o := _) (v := ?_) (by rw [HOPS.out]; simp only [List.getElem?_toArray, List.getElem?_cons_succ, List.getElem?_cons_zero]; exact rfl) (Or.inl ⟨rfl, ?_⟩) ?_
                    rotate_left
                    · (intro w hSw; have hSx := HFA.out _ hSw; (try dsimp only at hSx); clear hSw; go_simp) <;> (with_reducible rfl)
                    simp only [Act.put, List.setIfInBounds_toArray, List.set_cons_zero, List.set_cons_succ]
                    refine walkX_take (o := _) (v := ?_) (by rw [HOPS.out]; simp only [List.getElem?_toArray, List.getElem?_cons_succ, List.getElem?_cons_zero]; exact rfl) (Or.inl ⟨rfl, ?_⟩) ?_
                    rotate_left
                    · (intro w hSw; have hSx := HFA.out _ hSw; (try dsimp only at hSx); clear hSw; go_simp) <;> (with_reducible rfl)
                    simp only [Act.put, List.setIfInBounds_toArray, List.set_cons_zero, List.set_cons_succ]
                    refine walkX_take (o := _) (v := ?_) (by rw [HOPS.out]; simp only [List.getElem?_toArray, List.getElem?_cons_succ, List.getElem?_cons_zero]; exact rfl) (Or.inl ⟨rfl, ?_⟩) ?_
                    rotate_left
                    · (intro w hSw; have hSx := HFA.out _ hSw; (try dsimp only at hSx); clear hSw; go_simp) <;> (with_reducible rfl)
                    simp only [Act.put, List.setIfInBounds_toArray, List.set_cons_zero, List.set_cons_succ]
                    refine walkX_take (o := _) (v := ?_) (by rw [HOPS.out]; simp only [List.getElem?_toArray, List.getElem?_cons_succ, List.getElem?_cons_zero]; exact rfl) (Or.inl ⟨rfl, ?_⟩) ?_
                    rotate_left
                    · (intro w hSw; have hSx := HFA.out _ hSw; (try dsimp only at hSx); clear hSw; go_simp) <;> (with_reducible rfl)
                    simp only [Act.put, List.setIfInBounds_toArray, List.set_cons_zero, List.set_cons_succ]
                    refine walkX_take (o := _) (v := ?_) (by rw [HOPS.out]; simp only [List.getElem?_toArray, List.getElem?_cons_succ, List.getElem?_cons_zero]; exact rfl) (Or.inl ⟨rfl, ?_⟩) ?_
                    rotate_left
                    · (intro w hSw; have hSx := HFA.out _ hSw; (try dsimp only at hSx); clear hSw; go_simp) <;> (with_reducible rfl)
                    simp only [Act.put, List.setIfInBounds_toArray, List.set_cons_zero, List.set_cons_succ]
                    refine walkX_take (o := _) (v := ?_) (by rw [HOPS.out]; simp only [List.getElem?_toArray, List.getElem?_cons_succ, List.getElem?_cons_zero]; exact rfl) (Or.inl ⟨rfl, ?_⟩) ?_
                    rotate_left
                    · (intro w hSw; have hSx := HFA.out _ hSw; (try dsimp only at hSx); clear hSw; go_simp) <;> (with_reducible rfl)
                    simp only [Act.put, List.setIfInBounds_toArray, List.set_cons_zero, List.set_cons_succ]
                    refine walkX_take (o := _) (v := ?_) (by rw [HOPS.out]; simp only [List.getElem?_toArray, List.getElem?_cons_succ, List.getElem?_cons_zero]; exact rfl) (Or.inl ⟨rfl, ?_⟩) ?_
                    rotate_left
                    · (intro w hSw; have hSx := HFA.out _ hSw; (try dsimp only at hSx); clear hSw; go_simp) <;> (with_reducible rfl)
                    simp only [Act.put, List.setIfInBounds_toArray, List.set_cons_zero, List.set_cons_succ]
                    refine walkX_take (o := _) (v := ?_) (by rw [HOPS.out]; simp only [List.getElem?_toArray, List.getElem?_cons_succ, List.getElem?_cons_zero]; exact rfl) (Or.inl ⟨rfl, ?_⟩) ?_
                    rotate_left
                    · (intro w hSw; have hSx := HFA.out _ hSw; (try dsimp only at hSx); clear hSw; go_simp) <;> (with_reducible rfl)
                    simp only [Act.put, List.setIfInBounds_toArray, List.set_cons_zero, List.set_cons_succ]
                    refine walkX_take (o := _) (v := ?_) (by rw [HOPS.out]; simp only [List.getElem?_toArray, List.getElem?_cons_succ, List.getElem?_cons_zero]; exact rfl) (Or.inl ⟨rfl, ?_⟩) ?_
                    rotate_left
                    · (intro w hSw; have hSx := HFA.out _ hSw; (try dsimp only at hSx); clear hSw; go_simp) <;> (with_reducible rfl)
                    simp only [Act.put, List.setIfInBounds_toArray, List.set_cons_zero, List.set_cons_succ]
                    refine walkX_take (o := _) (v := ?_) (by rw [HOPS.out]; simp only [List.getElem?_toArray, List.getElem?_cons_succ, List.getElem?_cons_zero]; exact rfl) (Or.inl ⟨rfl, ?_⟩) ?_
                    rotate_left
                    · (intro w hSw; have hSx := HFA.out _ hSw; (try dsimp only at hSx); clear hSw; go_simp) <;> (with_reducible rfl)
                    simp only [Act.put, List.setIfInBounds_toArray, List.set_cons_zero, List.set_cons_succ]
                    refine walkX_call (o := _) (by rw [HOPS.out]; simp only [List.getElem?_toArray, List.getElem?_cons_succ, List.getElem?_cons_zero]; exact rfl) (fun K HK => ?_)
                    refine step_append_fr2 rfl (.tmp 237) (.tmp 241) 22 rfl 5 (.int .u8 0) 1 HUU.out HIN.out rfl (Q + 4) (.slice ra O1.length rc) _ rfl (HOW.out.keep fd (by simp)) g z2 j _ rfl H5.out (HSV.out.keep fd (by simp)) HO1.out H3.out H4.out (Nat.le_trans hz8 fd.size) ?_
                    intro v9 w9 o9 f9 hb9
                    have f89 : Fr (Value.slice ra O1.length rc).ownBlock.toList w8 w9 := fdS.trans f9 (fun x hx => .inl hx) (fun x hx => .inl hx)
                    obtain ⟨va, vc, rfl, _⟩ := o9.form
                    obtain ⟨vn, hvn⟩ : ∃ n, (List.map (Value.int .u8) (bi O1) ++ List.map (Value.int .u8) (bi (d.take z2))).length = n := ⟨_, rfl⟩
                    rw [hvn] at o9 hb9 ⊢
                    refine HK.out (fun w' => Fr (Value.slice ra O1.length rc).ownBlock.toList w8 w') _ _ (fun _ h => h) (f89) ?_
                    clear HK K
                    try simp only [Act.put, List.setIfInBounds_toArray, List.set_cons_zero, List.set_cons_succ]
                    refine walkX_take (o := _) (v := ?_) (by rw [HOPS.out]; simp only [List.getElem?_toArray, List.getElem?_cons_succ, List.getElem?_cons_zero]; exact rfl) (Or.inl ⟨rfl, ?_⟩) ?_
                    rotate_left
                    · (intro w hSw; have hSx := HFA.out _ hSw; (try dsimp only at hSx); clear hSw; go_simp) <;> (with_reducible rfl)
                    simp only [Act.put, List.setIfInBounds_toArray, List.set_cons_zero, List.set_cons_succ]
                    refine walkX_tail ?_
                    refine walkTail_step (o := _) (by rw [HOPS.out]; simp only [List.getElem?_toArray, List.getElem?_cons_succ, List.getElem?_cons_zero]; exact rfl) (fun K HK => ?_)
                    have hb9' := hb8.out.keep f89 (fun x hx => .inr (hrb x hx).1)
                    have sc_ : w9.cell? ⟨Q + 2, 1, none⟩ = some (.slice ra O1.length rc) := cell_of hb9'.q2
                    have sf_ : w9.frozen? ⟨Q + 2, 1, none⟩ = false := free_of hb9'.q2
                    go_simp
                    clear sc_ sf_
                    refine HK.out _ _ ?_
                    clear HK K
                    try simp only [Act.put, List.setIfInBounds_toArray, List.set_cons_zero, List.set_cons_succ]
                    refine walkTail_done ?_
                    clear HOPS OPS
                    obtain ⟨M0, M1, hm9⟩ := (hm8.out.keep0 fd).push1 o9 f9 hb9
                    have hwQ : w.heap.size ≤ Q := by have := HM7.out.lo; omega
                    have g9 := g8.out.trans f89 (U := []) (by simp) (fun x hx => .inr (by have := (hrb x hx).1; omega))
                    have f10 : Fr [Q + 2] w9 (w9.setCell ⟨Q + 2, 1, none⟩ (.slice va vn vc)) := (Fr.refl _ _).setCell (.inl (by simp)) _
                    have H10 := Lib.hid (And.intro (hm9.box (k := 2) (i := 1) (by omega) (.slice va vn vc)) (And.intro (hb9'.set21 (.slice va vn vc)) (g9.trans f10 (U := []) (by simp) (fun x hx => .inr (by simp at hx; omega)))))
                    clear hm9 g9 f10 o9 hb9 f9 f89 fd fdS hrb hb9' HFA HSV HOW
                    go_wp2_with fail
                    go_roundw
                    case rel => exact ⟨n + 1, wroteS0 s z2 0, M0, M1, u0, _, O0, O1 ++ d.take z2, a0, a1, s0, s1, by omega, by go_num, Lib.hid H10.out.1, Lib.hid H10.out.2.1, Lib.hid HRN.out, Lib.hid H10.out.2.2⟩
                    case measure => simp [intOf]; omega
                · as_aux_lemma =>
                    injection hx with hx1 hx2 hx3 hx4 hx5
                    subst hx1 hx4
                    have hsd : sd = 1 := by rw [hx2]; rfl
                    subst hsd
                    have HCC := Lib.hid fun w' (f : Fr [] w7 w') => close_sp0 (HM7.out.sp.keep0 f) (by have := HRD.out; omega) rfl rfl
                    rw [HX.out] at HCC
                    have hce : closeE ⟨3, 1, m, [], ex⟩ = 0 := rfl
                    rw [hce] at HCC
                    have hcc : (closeS0 s).c0 = true := by
                      unfold closeS0 note0
                      dsimp only
                      rw [HX.out]
                      simp
                    have HRN := Lib.hid (HR.out.turn0 (s' := closeS0 s) hni rfl rfl (.inl rfl) HM7.out.sp.h0.ok (fun m g => by have g2 := g; rw [hc] at g2; rw [hcc]; exact g2.close hr hts))
                    obtain ⟨x0, x1, rfl, _⟩ := Ow.formC HM7.out.r1
                    have hlo := HM7.out.lo
                    have hbl : ∀ x ∈ [b, W, b0, b1], w.heap.size ≤ x ∧ x < Q := by intro x hx; simp at hx; omega
                    have hKBQ : Q + 4 ≤ KB := by omega
                    have HFA := Lib.hid fun (w' : World) (f : Fr [b, W, b0, b1] w7 w') => (show w'.cell? ⟨KB, 1, none⟩ = some (.int .i64 1) ∧ w'.cell? ⟨Q + 2, 1, none⟩ = some (.slice x0 O1.length x1) ∧ w'.cell? ⟨Q, 0, none⟩ = some (.slice za Z.length zc) from ⟨cell_of (f.keep HW7.out (fun hm => by have := (hbl _ hm).2; omega)), cell_of (f.keep HB7.out.q2 (fun hm => by have := (hbl _ hm).2; omega)), cell_of (f.keep HB7.out.q0 (fun hm => by have := (hbl _ hm).2; omega))⟩)
                    have hne : ((O1.length : Int) != (Z.length : Int)) = false := by rw [hO]; simp
                    have hsl : s1 ≤ 1 := by have h := HR.out.r0; obtain ⟨_, g, _⟩ := h; have := g.sh; split at this <;> omega
                    have HEC := Lib.hid (Go.Proofs.enters_of Try.func35 (by kernel_rfl) rfl)
                    have HBL := Lib.hid hbl
                    have hnel : ¬ (O1.length ≠ Z.length) := by rw [hO]; simp
                    clear hlo hbl hc ha hr hts hx2 hx3 hx5 hcc
                    have hwo : IntKind.i64.wrap 1 = 1 := by decide
                    obtain ⟨w0_, w1_, w2_, w3_, w4_⟩ := WBcells5 HW7.out
                    go_wp2_with fail
                    have fd : Fr [] w7 w7.drew := (Fr.refl _ _).drew
                    have fdS : Fr [b, W, b0, b1] w7 w7.drew := fd.trans (Fr.refl _ _ : Fr [b, W, b0, b1] _ _) (by simp) (fun x hx => .inl hx)
                    refine wp_region_order [(0, true), (1, true), (2, true), (3, true), (4, true), (5, true), (6, true), (7, true), (8, true), (9, true), (10, true), (11, true), (12, true), (13, true), (14, true), (15, true), (16, true), (17, true), (18, true), (19, true), (20, false), (21, true), (22, true)] (fun w' => Fr [b, W, b0, b1] w7 w') (by kernel_rfl) (by kernel_rfl) fdS ?_
                    intro OPS HOPS
                    have hops := HOPS.out
                    try simp only [List.append_eq, List.cons_append, List.nil_append] at hops
                    replace HOPS := Lib.hid hops
                    clear hops
                    refine walkO_take (o := _) (v := ?_) (by rw [HOPS.out]; simp only [List.getElem?_toArray, List.getElem?_cons_succ, List.getElem?_cons_zero]; exact rfl) (Or.inl ⟨rfl, ?_⟩) ?_
                    rotate_left
                    · (intro w hSw; have hSx := HFA.out _ hSw; (try dsimp only at hSx); clear hSw; go_simp) <;> (with_reducible rfl)
                    simp only [Act.put, List.setIfInBounds_toArray, List.set_cons_zero, List.set_cons_succ]
                    refine walkO_take (o := _) (v := ?_) (by rw [HOPS.out]; simp only [List.getElem?_toArray, List.getElem?_cons_succ, List.getElem?_cons_zero]; exact rfl) (Or.inl ⟨rfl, ?_⟩) ?_
                    rotate_left
                    · (intro w hSw; have hSx := HFA.out _ hSw; (try dsimp only at hSx); clear hSw; go_simp) <;> (with_reducible rfl)
                    simp only [Act.put, List.setIfInBounds_toArray, List.set_cons_zero, List.set_cons_succ]
                    refine walkO_take (o := _) (v := ?_) (by rw [HOPS.out]; simp only [List.getElem?_toArray, List.getElem?_cons_succ, List.getElem?_cons_zero]; exact rfl) (Or.inl ⟨rfl, ?_⟩) ?_
                    rotate_left
                    · (intro w hSw; have hSx := HFA.out _ hSw; (try dsimp only at hSx); clear hSw; go_simp) <;> (with_reducible rfl)
                    simp only [Act.put, List.setIfInBounds_toArray, List.set_cons_zero, List.set_cons_succ]
                    refine walkO_take (o := _) (v := ?_) (by rw [HOPS.out]; simp only [List.getElem?_toArray, List.getElem?_cons_succ, List.getElem?_cons_zero]; exact rfl) (Or.inl ⟨rfl, ?_⟩) ?_
                    rotate_left
                    · (intro w hSw; have hSx := HFA.out _ hSw; (try dsimp only at hSx); clear hSw; go_simp) <;> (with_reducible rfl)
                    simp only [Act.put, List.setIfInBounds_toArray, List.set_cons_zero, List.set_cons_succ]
                    refine walkO_take (o := _) (v := ?_) (by rw [HOPS.out]; simp only [List.getElem?_toArray, List.getElem?_cons_succ, List.getElem?_cons_zero]; exact rfl) (Or.inl ⟨rfl, ?_⟩) ?_
                    rotate_left
                    · (intro w hSw; have hSx := HFA.out _ hSw; (try dsimp only at hSx); clear hSw; go_simp) <;> (with_reducible rfl)
                    simp only [Act.put, List.setIfInBounds_toArray, List.set_cons_zero, List.set_cons_succ]
                    refine walkO_take (o := _) (v := ?_) (by rw [HOPS.out]; simp only [List.getElem?_toArray, List.getElem?_cons_succ, List.getElem?_cons_zero]; exact rfl) (Or.inl ⟨rfl, ?_⟩) ?_
                    rotate_left
                    · (intro w hSw; have hSx := HFA.out _ hSw; (try dsimp only at hSx); clear hSw; go_simp) <;> (with_reducible rfl)
                    simp only [Act.put, List.setIfInBounds_toArray, List.set_cons_zero, List.set_cons_succ]
                    refine walkO_take (o := _) (v := ?_) (by rw [HOPS.out]; simp only [List.getElem?_toArray, List.getElem?_cons_succ, List.getElem?_cons_zero]; exact rfl) (Or.inl ⟨by rw [HOPS.out]; rfl, ?_⟩) ?_
                    rotate_left
                    · (intro w hSw; have hSx := HFA.out _ hSw; (try dsimp only at hSx); clear hSw; go_simp) <;> (with_reducible rfl)
                    simp only [Act.put, List.setIfInBounds_toArray, List.set_cons_zero, List.set_cons_succ]
                    refine walkO_take (o := _) (v := ?_) (by rw [HOPS.out]; simp only [List.getElem?_toArray, List.getElem?_cons_succ, List.getElem?_cons_zero]; exact rfl) (Or.inl ⟨by rw [HOPS.out]; rfl, ?_⟩) ?_
                    rotate_left
                    · (intro w hSw; have hSx := HFA.out _ hSw; (try dsimp only at hSx); clear hSw; go_simp) <;> (with_reducible rfl)
                    simp only [Act.put, List.setIfInBounds_toArray, List.set_cons_zero, List.set_cons_succ]
                    refine walkO_take (o := _) (v := ?_) (by rw [HOPS.out]; simp only [List.getElem?_toArray, List.getElem?_cons_succ, List.getElem?_cons_zero]; exact rfl) (Or.inl ⟨by rw [HOPS.out]; rfl, ?_⟩) ?_
                    rotate_left
                    · (intro w hSw; have hSx := HFA.out _ hSw; (try dsimp only at hSx); clear hSw; go_simp) <;> (with_reducible rfl)
                    simp only [Act.put, List.setIfInBounds_toArray, List.set_cons_zero, List.set_cons_succ]
                    refine walkO_take (o := _) (v := ?_) (by rw [HOPS.out]; simp only [List.getElem?_toArray, List.getElem?_cons_succ, List.getElem?_cons_zero]; exact rfl) (Or.inl ⟨by rw [HOPS.out]; rfl, ?_⟩) ?_
                    rotate_left
                    · (intro w hSw; have hSx := HFA.out _ hSw; (try dsimp only at hSx); clear hSw; go_simp) <;> (with_reducible rfl)
                    simp only [Act.put, List.setIfInBounds_toArray, List.set_cons_zero, List.set_cons_succ]
                    refine walkO_take (o := _) (v := ?_) (by rw [HOPS.out]; simp only [List.getElem?_toArray, List.getElem?_cons_succ, List.getElem?_cons_zero]; exact rfl) (Or.inl ⟨by rw [HOPS.out]; rfl, ?_⟩) ?_
                    rotate_left
                    · (intro w hSw; have hSx := HFA.out _ hSw; (try dsimp only at hSx); clear hSw; go_simp) <;> (with_reducible rfl)
                    simp only [Act.put, List.setIfInBounds_toArray, List.set_cons_zero, List.set_cons_succ]
                    refine walkO_take (o := _) (v := ?_) (by rw [HOPS.out]; simp only [List.getElem?_toArray, List.getElem?_cons_succ, List.getElem?_cons_zero]; exact rfl) (Or.inl ⟨by rw [HOPS.out]; rfl, ?_⟩) ?_
                    rotate_left
                    · (intro w hSw; have hSx := HFA.out _ hSw; (try dsimp only at hSx); clear hSw; go_simp) <;> (with_reducible rfl)
                    simp only [Act.put, List.setIfInBounds_toArray, List.set_cons_zero, List.set_cons_succ]
                    refine walkO_take (o := _) (v := ?_) (by rw [HOPS.out]; simp only [List.getElem?_toArray, List.getElem?_cons_succ, List.getElem?_cons_zero]; exact rfl) (Or.inl ⟨by rw [HOPS.out]; rfl, ?_⟩) ?_
                    rotate_left
                    · (intro w hSw; have hSx := HFA.out _ hSw; (try dsimp only at hSx); clear hSw; go_simp) <;> (with_reducible rfl)
                    simp only [Act.put, List.setIfInBounds_toArray, List.set_cons_zero, List.set_cons_succ]
                    refine walkO_take (o := _) (v := ?_) (by rw [HOPS.out]; simp only [List.getElem?_toArray, List.getElem?_cons_succ, List.getElem?_cons_zero]; exact rfl) (Or.inl ⟨by rw [HOPS.out]; rfl, ?_⟩) ?_
                    rotate_left
                    · (intro w hSw; have hSx := HFA.out _ hSw; (try dsimp only at hSx); clear hSw; go_simp) <;> (with_reducible rfl)
                    simp only [Act.put, List.setIfInBounds_toArray, List.set_cons_zero, List.set_cons_succ]
                    refine walkO_take (o := _) (v := ?_) (by rw [HOPS.out]; simp only [List.getElem?_toArray, List.getElem?_cons_succ, List.getElem?_cons_zero]; exact rfl) (Or.inl ⟨by rw [HOPS.out]; rfl, ?_⟩) ?_
                    rotate_left
                    · (intro w hSw; have hSx := HFA.out _ hSw; (try dsimp only at hSx); clear hSw; go_simp) <;> (with_reducible rfl)
                    simp only [Act.put, List.setIfInBounds_toArray, List.set_cons_zero, List.set_cons_succ]
                    refine walkO_take (o := _) (v := ?_) (by rw [HOPS.out]; simp only [List.getElem?_toArray, List.getElem?_cons_succ, List.getElem?_cons_zero]; exact rfl) (Or.inl ⟨by rw [HOPS.out]; rfl, ?_⟩) ?_
                    rotate_left
                    · (intro w hSw; have hSx := HFA.out _ hSw; (try dsimp only at hSx); clear hSw; go_simp) <;> (with_reducible rfl)
                    simp only [Act.put, List.setIfInBounds_toArray, List.set_cons_zero, List.set_cons_succ]
                    refine walkO_take (o := _) (v := ?_) (by rw [HOPS.out]; simp only [List.getElem?_toArray, List.getElem?_cons_succ, List.getElem?_cons_zero]; exact rfl) (Or.inl ⟨rfl, ?_⟩) ?_
                    rotate_left
                    · (intro w hSw; have hSx := HFA.out _ hSw; (try dsimp only at hSx); clear hSw; go_simp) <;> (with_reducible rfl)
                    simp only [Act.put, List.setIfInBounds_toArray, List.set_cons_zero, List.set_cons_succ]
                    refine walkO_take (o := _) (v := ?_) (by rw [HOPS.out]; simp only [List.getElem?_toArray, List.getElem?_cons_succ, List.getElem?_cons_zero]; exact rfl) (Or.inl ⟨rfl, ?_⟩) ?_
                    rotate_left
                    · (intro w hSw; have hSx := HFA.out _ hSw; (try dsimp only at hSx); clear hSw; go_simp) <;> (with_reducible rfl)
                    simp only [Act.put, List.setIfInBounds_toArray, List.set_cons_zero, List.set_cons_succ]
                    refine walkO_take (o := _) (v := ?_) (by rw [HOPS.out]; simp only [List.getElem?_toArray, List.getElem?_cons_succ, List.getElem?_cons_zero]; exact rfl) (Or.inl ⟨by rw [HOPS.out]; rfl, ?_⟩) ?_
                    rotate_left
                    · (intro w hSw; have hSx := HFA.out _ hSw; (try dsimp only at hSx); clear hSw; go_simp) <;> (with_reducible rfl)
                    simp only [Act.put, List.setIfInBounds_toArray, List.set_cons_zero, List.set_cons_succ]
                    refine walkO_take (o := _) (v := ?_) (by rw [HOPS.out]; simp only [List.getElem?_toArray, List.getElem?_cons_succ, List.getElem?_cons_zero]; exact rfl) (Or.inl ⟨by rw [HOPS.out]; rfl, ?_⟩) ?_
                    rotate_left
                    · (intro w hSw; have hSx := HFA.out _ hSw; (try dsimp only at hSx); clear hSw; go_simp) <;> (with_reducible rfl)
                    simp only [Act.put, List.setIfInBounds_toArray, List.set_cons_zero, List.set_cons_succ]
                    refine walkO_call (o := _) (by rw [HOPS.out]; simp only [List.getElem?_toArray, List.getElem?_cons_succ, List.getElem?_cons_zero]; exact rfl) (fun K HK => ?_)
                    refine step_call (by rw [HOPS.out]; rfl) 35 #[(.tmp 264), (.tmp 265)] #[68, 3] rfl HEC.out #[.pointer (some ⟨b, 0, none⟩), .int .i64 0] (by simp [Act.eval]) (HCC.out _ fd) ?_
                    rintro e w8 ⟨rfl, f8', hS8⟩
                    have f8 : Fr [b, W, b0, b1] w7 w8 := fdS.trans f8' (fun x hx => .inl hx) (fun x hx => .inl hx)
                    refine ⟨_, rfl, ?_⟩
                    refine HK.out (fun w' => Fr [b, W, b0, b1] w7 w') _ _ (fun _ h => h) (f8) ?_
                    clear HK K
                    simp only [Act.put, List.setIfInBounds_toArray, List.set_cons_zero, List.set_cons_succ]
                    refine walkO_take (o := _) (v := ?_) (by rw [HOPS.out]; simp only [List.getElem?_toArray, List.getElem?_cons_succ, List.getElem?_cons_zero]; exact rfl) (Or.inl ⟨by rw [HOPS.out]; rfl, ?_⟩) ?_
                    rotate_left
                    · (intro w hSw; have hSx := HFA.out _ hSw; (try dsimp only at hSx); clear hSw; go_simp) <;> (with_reducible rfl)
                    simp only [Act.put, List.setIfInBounds_toArray, List.set_cons_zero, List.set_cons_succ]
                    refine walkO_take (o := _) (v := ?_) (by rw [HOPS.out]; simp only [List.getElem?_toArray, List.getElem?_cons_succ, List.getElem?_cons_zero]; exact rfl) (Or.inl ⟨rfl, ?_⟩) ?_
                    rotate_left
                    · (intro w hSw; have hSx := HFA.out _ hSw; (try dsimp only at hSx); clear hSw; go_simp) <;> (with_reducible rfl)
                    simp only [Act.put, List.setIfInBounds_toArray, List.set_cons_zero, List.set_cons_succ]
                    refine walkO_done ?_
                    clear HOPS OPS
                    have hm8 := HM7.out.call f8 hS8
                    have hb8 := HB7.out.keep f8 (fun x hx => .inl (HBL.out x hx).2)
                    have g8 := HG7.out.trans f8 (U := []) (by simp) (fun x hx => .inr (HBL.out x hx).1)
                    obtain ⟨_, _, _, _, _, _, c30, c31⟩ := hb8.cells
                    obtain ⟨_, _, _, y3⟩ := hb8.free 1
                    have hb9 := hb8.set31 (s1 + 1)
                    have hm9 := hm8.box (k := 3) (i := 1) (by omega) (.int .i64 ((s1 + 1 : Nat) : Int))
                    have f9 : Fr [Q + 3] w8 (w8.setCell ⟨Q + 3, 1, none⟩ (.int .i64 ((s1 + 1 : Nat) : Int))) := (Fr.refl _ _).setCell (.inl (by simp)) _
                    have hwQ : w.heap.size ≤ Q := by have := HM7.out.lo; omega
                    have H9 := Lib.hid (And.intro hm9 (And.intro hb9 (g8.trans f9 (U := []) (by simp) (fun x hx => .inr (by simp at hx; omega)))))
                    have hws : IntKind.i64.wrap ((s1 : Int) + 1) = ((s1 + 1 : Nat) : Int) := by rw [IntWalk.i64_in _ (by omega)]; rfl
                    clear hm8 hb8 g8 hb9 hm9 f9 f8 f8' fd fdS hS8 HFA HCC HEC w0_ w1_ w2_ w3_ w4_
                    go_wp2_with fail
                    go_roundw
                    case rel => exact ⟨n + 1, closeS0 s, N0, N1, u0, _, O0, O1, a0, a1, s0, s1 + 1, by omega, by go_num, Lib.hid H9.out.1, Lib.hid H9.out.2.1, Lib.hid HRN.out, Lib.hid H9.out.2.2⟩
                    case measure => simp [intOf]; omega
                · as_aux_lemma =>
                    injection hx with hx1 hx2 hx3 hx4 hx5
                    subst hx1 hx4
                    obtain ⟨w0_, w1_, w2_, w3_, w4_⟩ := WBcells5 HW7.out
                    have HRN := Lib.hid (HR.out.turn0 hni rfl rfl (.inr rfl) HM7.out.sp.h0.ok (fun m g => by have g2 := g; rw [hc] at g2 ⊢; exact g2.skip))
                    clear hc hO hsh hx2 hx3 hx5
                    go_wp2_with fail
                    go_roundw
                    case rel => exact ⟨n + 1, s, N0, N1, u0, u1, O0, O1, a0, a1, s0, s1, by omega, by go_num, Lib.hid HM7.out, Lib.hid HB7.out, Lib.hid HRN.out, Lib.hid HG7.out⟩
                    case measure => simp [intOf]; omega
          · as_aux_lemma =>
              obtain ⟨mm, gg, jj⟩ := HR.out.r1
              have hkinds := gg.kinds HM5.out.sp.h1.ok 1
              obtain ⟨kd, sd, m, d, ex, hx⟩ : ∃ k_ s_ m_ d_ e_, nextS s.t1 s.c1 1 = ⟨k_, s_, m_, d_, e_⟩ := ⟨_, _, _, _, _, rfl⟩
              rw [hx] at hkinds
              have HKI := Lib.hid hkinds
              have HX := Lib.hid hx
              have HNX := Lib.hid (hx ▸ sp_next1 HM5.out.sp (by have := HRD.out; omega))
              clear hkinds hx gg jj
              go_wp2_with fail
              refine HNX.out.mono ?_
              rintro e' w6 ⟨v, rfl, f6, uu, rfl, ou⟩
              obtain ⟨g, j, rfl, hgj, _, gs, hgn⟩ := ou.formB
              clear ou HNX
              obtain ⟨w7, hw7, f7, q7⟩ : ∃ W, w6.alloc (.cells #[.int .i64 kd, .int .i64 sd, .int .i64 m, .slice g d.length j, .int .i64 ex] 32) = W ∧ Fr [] w6 W ∧ W.heap[w6.heap.size]? = some (.cells #[.int .i64 kd, .int .i64 sd, .int .i64 m, .slice g d.length j, .int .i64 ex] 32 (0, 0)) := ⟨_, rfl, (Fr.refl _ _).alloc _, newA rfl⟩
              have g57 := f6.then0 f7
              have HM7 := Lib.hid (HM5.out.keep0 g57)
              have HB7 := Lib.hid (HB5.out.keep0 g57)
              have HG7 := Lib.hid (HG5.out.then0 g57)
              have HW7 := Lib.hid q7
              have HGS := Lib.hid (And.intro (sl_keep gs f7 (by simp)) hgj)
              have hz6 := f6.size
              have hz5 := HM5.out.hq
              have hWB := lt_of_heap q7
              have HROW : Hid ((∀ x, u0.ownBlock = some x → x < w6.heap.size) ∧ (∀ x, u1.ownBlock = some x → x < w6.heap.size)) := Lib.hid ⟨fun x e => Nat.lt_of_lt_of_le (HM5.out.r0.lt x e).2 hz6, fun x e => Nat.lt_of_lt_of_le (HM5.out.r1.lt x e).2 hz6⟩
              have HGB : Hid (∀ b' o', g = some ⟨b', o', none⟩ → Q + 4 ≤ b') := Lib.hid (fun b' o' e => by have := hgn b' o' e; omega)
              clear HM5 HB5 HG5 f6 f7 q7 gs hgj hgn g57
              go_upto_if 134 with fail
              clear hw7
              go_cut [23] (fun v wx => ∃ z : Nat, v = .int .i64 z ∧ 1 ≤ z ∧ z ≤ 256 ∧ wx = w7)
              case first =>
                as_aux_lemma =>
                  by_cases hS0 : (0 : Int) < S.length
                  · have hS : 0 < S.length := by omega
                    obtain ⟨sb, sof, rfl, hsb, hsc⟩ := (HSN.out _ HG7.out).sl (by rw [bi_length]; exact hS)
                    have hiS : n % S.length < S.length := Nat.mod_lt _ hS
                    have hcell := hsc (n % S.length) (by rw [bi_length]; exact hiS)
                    rw [bi_getD S _ hiS] at hcell
                    have hq := S[n % S.length].toNat_lt
                    generalize S[n % S.length].toNat = q at hcell hq
                    have htm : (n : Int).tmod S.length = ((n % S.length : Nat) : Int) := rfl
                    generalize n % S.length = jx at hiS hcell htm
                    have hjS : (jx : Int) < S.length := by omega
                    have hj0 : (0 : Int) ≤ jx := by omega
                    have hSi : ¬ (S.length : Int) = 0 := by omega
                    have hwq2 : IntKind.i64.wrap (q : Int) = q := IntWalk.i64_in _ (by omega)
                    have hwr : IntKind.i64.wrap (1 + (q : Int)) = 1 + q := IntWalk.i64_in _ (by omega)
                    clear hsc HSN
                    go_wp2_with fail
                    go_meet
                    exact ⟨1 + q, by go_num, by omega, by omega, rfl⟩
                  · clear HSN
                    go_wp2_with fail
                    go_meet
                    exact ⟨1, rfl, by omega, by omega, rfl⟩
              case rest =>
                obtain ⟨z, rfl, hz1, hz2, hwx⟩ := hcut
                subst hwx
                rename World => w7
                generalize hKB : w6.heap.size = KB at *
                clear hKB
                have hni : n % 6 ≠ 0 := fun h => absurd (HE.out.2.1 h) (by decide)
                rcases HKI.out with ⟨hc, hk1, hts, hst, hx⟩ | ⟨hc, hk1, hts, hx⟩ | ⟨hc, ha, hr, hts, hO, hx⟩ | ⟨hc, hO, hsh, hx⟩
                · as_aux_lemma =>
                    injection hx with hx1 hx2 hx3 hx4 hx5
                    subst hx1 hx4
                    have hsd : sd = 1 := hx2
                    subst hsd
                    obtain ⟨m0, gq, _⟩ := HR.out.r1
                    have hal := gq.at_le
                    have hmm : m = sgn := hx3.trans gq.stage
                    have hmt : s.t1.stage = sgn := gq.stage
                    subst hmm
                    obtain ⟨sz, hsz⟩ : ∃ sz : Nat, min z (min sgn (Y.length - a1)) = sz := ⟨_, rfl⟩
                    have hwr : IntKind.i64.wrap ((Y.length : Int) - (a1 : Int)) = (Y.length : Int) - a1 := IntWalk.i64_in _ (by omega)
                    have hmin : min (min (z : Int) (sgn : Int)) ((Y.length : Int) - (a1 : Int)) = (sz : Int) := by omega
                    have hmin2 : min (z : Int) (min (sgn : Int) ((Y.length : Int) - (a1 : Int))) = (sz : Int) := by omega
                    have hws : IntKind.i64.wrap ((a1 : Int) + (sz : Int)) = (a1 : Int) + sz := IntWalk.i64_in _ (by omega)
                    have hle : a1 + sz ≤ Y.length := by omega
                    have hsg : (sz : Int) ≤ s.t1.stage := by rw [hmt]; omega
                    have hz0 : sz = 0 → a1 + sz = Y.length := by omega
                    have hs200 : sz ≤ 200 := by omega
                    have HSZ := Lib.hid (And.intro hle (And.intro hsg (And.intro hz0 hs200)))
                    obtain ⟨w0_, w1_, w2_, w3_, w4_⟩ := WBcells5 HW7.out
                    obtain ⟨c00, c01, c10, c11, _, _, _, _⟩ := HB7.out.cells
                    have HGQ := Lib.hid gq
                    clear gq hx2 hx3 hx5 hle hsg hz0 hmt hs200
                    have HMI : Hid ((if (Y.length : Int) - (a1 : Int) < if sgn < z then (sgn : Int) else (z : Int) then (Y.length : Int) - (a1 : Int) else if sgn < z then (sgn : Int) else (z : Int)) = (sz : Int)) := Lib.hid (by (repeat' (first | omega | split)))
                    clear hmin hmin2
                    have HFB := Lib.hid fun (w' : World) (f : Fr [] w7 w') => (show w'.cell? ⟨KB, 2, none⟩ = some (.int .i64 sgn) ∧ w'.cell? ⟨Q, 1, none⟩ = some (.slice ya Y.length yc) ∧ w'.cell? ⟨Q + 1, 1, none⟩ = some (.int .i64 a1) from ⟨cell_of (f.keep HW7.out (by simp)), cell_of (HB7.out.keep0 f).q0, cell_of (HB7.out.keep0 f).q1⟩)
                    go_wp2_with fail
                    have fd0 : Fr [] w7 w7.drew := (Fr.refl _ _).drew
                    refine wp_region_order [(0, true), (1, true), (2, true), (3, true), (4, true), (5, true), (6, true), (7, true), (8, true), (9, true), (10, true), (11, true), (12, true)] (fun w' => Fr [] w7 w') (by kernel_rfl) (by kernel_rfl) fd0 ?_
                    intro OPS HOPS
                    have hops := HOPS.out
                    try simp only [List.append_eq, List.cons_append, List.nil_append] at hops
                    replace HOPS := Lib.hid hops
                    clear hops
                    refine walkO_take (o := _) (v := ?_) (by rw [HOPS.out]; simp only [List.getElem?_toArray, List.getElem?_cons_succ, List.getElem?_cons_zero]; exact rfl) (Or.inl ⟨rfl, ?_⟩) ?_
                    rotate_left
                    · (intro w hSw; have hSx := HFB.out _ hSw; (try dsimp only at hSx); clear hSw; go_simp) <;> (with_reducible rfl)
                    simp only [Act.put, List.setIfInBounds_toArray, List.set_cons_zero, List.set_cons_succ]
                    refine walkO_take (o := _) (v := ?_) (by rw [HOPS.out]; simp only [List.getElem?_toArray, List.getElem?_cons_succ, List.getElem?_cons_zero]; exact rfl) (Or.inl ⟨rfl, ?_⟩) ?_
                    rotate_left
                    · (intro w hSw; have hSx := HFB.out _ hSw; (try dsimp only at hSx); clear hSw; go_simp) <;> (with_reducible rfl)
                    simp only [Act.put, List.setIfInBounds_toArray, List.set_cons_zero, List.set_cons_succ]
                    refine walkO_take (o := _) (v := ?_) (by rw [HOPS.out]; simp only [List.getElem?_toArray, List.getElem?_cons_succ, List.getElem?_cons_zero]; exact rfl) (Or.inl ⟨rfl, ?_⟩) ?_
                    rotate_left
                    · (intro w hSw; have hSx := HFB.out _ hSw; (try dsimp only at hSx); clear hSw; go_simp) <;> (with_reducible rfl)
                    simp only [Act.put, List.setIfInBounds_toArray, List.set_cons_zero, List.set_cons_succ]
                    refine walkO_take (o := _) (v := ?_) (by rw [HOPS.out]; simp only [List.getElem?_toArray, List.getElem?_cons_succ, List.getElem?_cons_zero]; exact rfl) (Or.inl ⟨rfl, ?_⟩) ?_
                    rotate_left
                    · (intro w hSw; have hSx := HFB.out _ hSw; (try dsimp only at hSx); clear hSw; go_simp) <;> (with_reducible rfl)
                    simp only [Act.put, List.setIfInBounds_toArray, List.set_cons_zero, List.set_cons_succ]
                    refine walkO_take (o := _) (v := ?_) (by rw [HOPS.out]; simp only [List.getElem?_toArray, List.getElem?_cons_succ, List.getElem?_cons_zero]; exact rfl) (Or.inl ⟨rfl, ?_⟩) ?_
                    rotate_left
                    · (intro w hSw; have hSx := HFB.out _ hSw; (try dsimp only at hSx); clear hSw; go_simp) <;> (with_reducible rfl)
                    simp only [Act.put, List.setIfInBounds_toArray, List.set_cons_zero, List.set_cons_succ]
                    refine walkO_take (o := _) (v := ?_) (by rw [HOPS.out]; simp only [List.getElem?_toArray, List.getElem?_cons_succ, List.getElem?_cons_zero]; exact rfl) (Or.inl ⟨rfl, ?_⟩) ?_
                    rotate_left
                    · (intro w hSw; have hSx := HFB.out _ hSw; (try dsimp only at hSx); clear hSw; go_simp) <;> (with_reducible rfl)
                    simp only [Act.put, List.setIfInBounds_toArray, List.set_cons_zero, List.set_cons_succ]
                    refine walkO_take (o := _) (v := ?_) (by rw [HOPS.out]; simp only [List.getElem?_toArray, List.getElem?_cons_succ, List.getElem?_cons_zero]; exact rfl) (Or.inl ⟨rfl, ?_⟩) ?_
                    rotate_left
                    · (intro w hSw; have hSx := HFB.out _ hSw; (try dsimp only at hSx); clear hSw; go_simp) <;> (with_reducible rfl)
                    simp only [Act.put, List.setIfInBounds_toArray, List.set_cons_zero, List.set_cons_succ]
                    refine walkO_take (o := _) (v := ?_) (by rw [HOPS.out]; simp only [List.getElem?_toArray, List.getElem?_cons_succ, List.getElem?_cons_zero]; exact rfl) (Or.inl ⟨rfl, ?_⟩) ?_
                    rotate_left
                    · (intro w hSw; have hSx := HFB.out _ hSw; (try dsimp only at hSx); clear hSw; go_simp) <;> (with_reducible rfl)
                    simp only [Act.put, List.setIfInBounds_toArray, List.set_cons_zero, List.set_cons_succ]
                    refine walkO_take (o := _) (v := ?_) (by rw [HOPS.out]; simp only [List.getElem?_toArray, List.getElem?_cons_succ, List.getElem?_cons_zero]; exact rfl) (Or.inl ⟨rfl, ?_⟩) ?_
                    rotate_left
                    · (intro w hSw; have hSx := HFB.out _ hSw; (try dsimp only at hSx); clear hSw; go_simp) <;> (with_reducible rfl)
                    simp only [Act.put, List.setIfInBounds_toArray, List.set_cons_zero, List.set_cons_succ]
                    refine walkO_take (o := _) (v := ?_) (by rw [HOPS.out]; simp only [List.getElem?_toArray, List.getElem?_cons_succ, List.getElem?_cons_zero]; exact rfl) (Or.inl ⟨rfl, ?_⟩) ?_
                    rotate_left
                    · (intro w hSw; have hSx := HFB.out _ hSw; (try dsimp only at hSx); clear hSw; go_simp) <;> (with_reducible rfl)
                    simp only [Act.put, List.setIfInBounds_toArray, List.set_cons_zero, List.set_cons_succ]
                    refine walkO_take (o := _) (v := ?_) (by rw [HOPS.out]; simp only [List.getElem?_toArray, List.getElem?_cons_succ, List.getElem?_cons_zero]; exact rfl) (Or.inl ⟨rfl, ?_⟩) ?_
                    rotate_left
                    · (intro w hSw; have hSx := HFB.out _ hSw; (try dsimp only at hSx); clear hSw; go_simp) <;> (with_reducible rfl)
                    simp only [Act.put, List.setIfInBounds_toArray, List.set_cons_zero, List.set_cons_succ]
                    refine walkO_take (o := _) (v := ?_) (by rw [HOPS.out]; simp only [List.getElem?_toArray, List.getElem?_cons_succ, List.getElem?_cons_zero]; exact rfl) (Or.inl ⟨rfl, ?_⟩) ?_
                    rotate_left
                    · (intro w hSw; have hSx := HFB.out _ hSw; (try dsimp only at hSx); clear hSw; go_simp) <;> (with_reducible rfl)
                    simp only [Act.put, List.setIfInBounds_toArray, List.set_cons_zero, List.set_cons_succ]
                    refine walkO_take (o := _) (v := ?_) (by rw [HOPS.out]; simp only [List.getElem?_toArray, List.getElem?_cons_succ, List.getElem?_cons_zero]; exact rfl) (Or.inl ⟨rfl, ?_⟩) ?_
                    rotate_left
                    · (intro w hSw; have hSx := HFB.out _ hSw; (try dsimp only at hSx); clear hSw; go_simp) <;> (with_reducible rfl)
                    simp only [Act.put, List.setIfInBounds_toArray, List.set_cons_zero, List.set_cons_succ]
                    refine walkO_done ?_
                    clear HOPS OPS
                    obtain ⟨wd, hwd⟩ : ∃ x, x = w7.drew := ⟨_, rfl⟩
                    rw [← hwd]
                    rw [HMI.out]
                    have HF27 : Hid (Fr [] w7 wd) := Lib.hid (by rw [hwd]; exact fd0)
                    clear hwr hal hsz fd0 HFB hwd HMI
                    go_upto_region 29 with fail
                    go_cut [178] (fun v wx => ∃ bb : Bool, v = .bool bb ∧ (bb = true → a1 + sz = Y.length) ∧ (sz = 0 → bb = true) ∧ Fr [] w7 wx)
                    case first =>
                      as_aux_lemma =>
                        clear c00 c01 c10 c11 w0_ w1_ w2_ w3_ w4_
                        have HFA := Lib.hid fun (w' : World) (f : Fr [] wd w') => (show w'.cell? ⟨Q, 1, none⟩ = some (.slice ya Y.length yc) ∧ w'.cell? ⟨Q + 1, 1, none⟩ = some (.int .i64 a1) from ⟨cell_of (HB7.out.keep0 (HF27.out.then0 f)).q0, cell_of (HB7.out.keep0 (HF27.out.then0 f)).q1⟩)
                        by_cases hE : a1 + sz = Y.length
                        · have HEE := Lib.hid hE
                          have hEi : ((a1 : Int) + sz == (Y.length : Int)) = true := by rw [beq_iff_eq]; omega
                          clear hE
                          by_cases hS : sz = 0
                          · have hSi : ((sz : Int) == 0) = true := by rw [beq_iff_eq]; omega
                            clear hS
                            go_wp2_with fail
                            have fd : Fr [] wd wd.drew := (Fr.refl _ _).drew
                            refine wp_region_order [(0, true), (1, true), (2, true), (3, true), (4, true), (5, true), (6, true), (7, true), (8, true), (9, true), (10, true), (11, true), (12, true), (13, true), (14, true), (15, true), (16, true), (17, true), (18, true)] (fun w' => Fr [] wd w') (by kernel_rfl) (by kernel_rfl) fd ?_
                            intro OPS HOPS
                            have hops := HOPS.out
                            try simp only [List.append_eq, List.cons_append, List.nil_append] at hops
                            replace HOPS := Lib.hid hops
                            clear hops
                            refine walkO_take (o := _) (v := ?_) (by rw [HOPS.out]; simp only [List.getElem?_toArray, List.getElem?_cons_succ, List.getElem?_cons_zero]; exact rfl) (Or.inl ⟨rfl, ?_⟩) ?_
                            rotate_left
                            · (intro w hSw; have hSx := HFA.out _ hSw; (try dsimp only at hSx); clear hSw; go_simp) <;> (with_reducible rfl)
                            simp only [Act.put, List.setIfInBounds_toArray, List.set_cons_zero, List.set_cons_succ]
                            refine walkO_take (o := _) (v := ?_) (by rw [HOPS.out]; simp only [List.getElem?_toArray, List.getElem?_cons_succ, List.getElem?_cons_zero]; exact rfl) (Or.inl ⟨rfl, ?_⟩) ?_
                            rotate_left
                            · (intro w hSw; have hSx := HFA.out _ hSw; (try dsimp only at hSx); clear hSw; go_simp) <;> (with_reducible rfl)
                            simp only [Act.put, List.setIfInBounds_toArray, List.set_cons_zero, List.set_cons_succ]
                            refine walkO_take (o := _) (v := ?_) (by rw [HOPS.out]; simp only [List.getElem?_toArray, List.getElem?_cons_succ, List.getElem?_cons_zero]; exact rfl) (Or.inl ⟨rfl, ?_⟩) ?_
                            rotate_left
                            · (intro w hSw; have hSx := HFA.out _ hSw; (try dsimp only at hSx); clear hSw; go_simp) <;> (with_reducible rfl)
                            simp only [Act.put, List.setIfInBounds_toArray, List.set_cons_zero, List.set_cons_succ]
                            refine walkO_take (o := _) (v := ?_) (by rw [HOPS.out]; simp only [List.getElem?_toArray, List.getElem?_cons_succ, List.getElem?_cons_zero]; exact rfl) (Or.inl ⟨rfl, ?_⟩) ?_
                            rotate_left
                            · (intro w hSw; have hSx := HFA.out _ hSw; (try dsimp only at hSx); clear hSw; go_simp) <;> (with_reducible rfl)
                            simp only [Act.put, List.setIfInBounds_toArray, List.set_cons_zero, List.set_cons_succ]
                            refine walkO_take (o := _) (v := ?_) (by rw [HOPS.out]; simp only [List.getElem?_toArray, List.getElem?_cons_succ, List.getElem?_cons_zero]; exact rfl) (Or.inl ⟨rfl, ?_⟩) ?_
                            rotate_left
                            · (intro w hSw; have hSx := HFA.out _ hSw; (try dsimp only at hSx); clear hSw; go_simp) <;> (with_reducible rfl)
                            simp only [Act.put, List.setIfInBounds_toArray, List.set_cons_zero, List.set_cons_succ]
                            refine walkO_take (o := _) (v := ?_) (by rw [HOPS.out]; simp only [List.getElem?_toArray, List.getElem?_cons_succ, List.getElem?_cons_zero]; exact rfl) (Or.inl ⟨rfl, ?_⟩) ?_
                            rotate_left
                            · (intro w hSw; have hSx := HFA.out _ hSw; (try dsimp only at hSx); clear hSw; go_simp) <;> (with_reducible rfl)
                            simp only [Act.put, List.setIfInBounds_toArray, List.set_cons_zero, List.set_cons_succ]
                            refine walkO_take (o := _) (v := ?_) (by rw [HOPS.out]; simp only [List.getElem?_toArray, List.getElem?_cons_succ, List.getElem?_cons_zero]; exact rfl) (Or.inl ⟨rfl, ?_⟩) ?_
                            rotate_left
                            · (intro w hSw; have hSx := HFA.out _ hSw; (try dsimp only at hSx); clear hSw; go_simp) <;> (with_reducible rfl)
                            simp only [Act.put, List.setIfInBounds_toArray, List.set_cons_zero, List.set_cons_succ]
                            refine walkO_take (o := _) (v := ?_) (by rw [HOPS.out]; simp only [List.getElem?_toArray, List.getElem?_cons_succ, List.getElem?_cons_zero]; exact rfl) (Or.inl ⟨rfl, ?_⟩) ?_
                            rotate_left
                            · (intro w hSw; have hSx := HFA.out _ hSw; (try dsimp only at hSx); clear hSw; go_simp) <;> (with_reducible rfl)
                            simp only [Act.put, List.setIfInBounds_toArray, List.set_cons_zero, List.set_cons_succ]
                            refine walkO_take (o := _) (v := ?_) (by rw [HOPS.out]; simp only [List.getElem?_toArray, List.getElem?_cons_succ, List.getElem?_cons_zero]; exact rfl) (Or.inl ⟨rfl, ?_⟩) ?_
                            rotate_left
                            · (intro w hSw; have hSx := HFA.out _ hSw; (try dsimp only at hSx); clear hSw; go_simp) <;> (with_reducible rfl)
                            simp only [Act.put, List.setIfInBounds_toArray, List.set_cons_zero, List.set_cons_succ]
                            refine walkO_take (o := _) (v := ?_) (by rw [HOPS.out]; simp only [List.getElem?_toArray, List.getElem?_cons_succ, List.getElem?_cons_zero]; exact rfl) (Or.inl ⟨rfl, ?_⟩) ?_
                            rotate_left
                            · (intro w hSw; have hSx := HFA.out _ hSw; (try dsimp only at hSx); clear hSw; go_simp) <;> (with_reducible rfl)
                            simp only [Act.put, List.setIfInBounds_toArray, List.set_cons_zero, List.set_cons_succ]
                            refine walkO_take (o := _) (v := ?_) (by rw [HOPS.out]; simp only [List.getElem?_toArray, List.getElem?_cons_succ, List.getElem?_cons_zero]; exact rfl) (Or.inl ⟨rfl, ?_⟩) ?_
                            rotate_left
                            · (intro w hSw; have hSx := HFA.out _ hSw; (try dsimp only at hSx); clear hSw; go_simp) <;> (with_reducible rfl)
                            simp only [Act.put, List.setIfInBounds_toArray, List.set_cons_zero, List.set_cons_succ]
                            refine walkO_take (o := _) (v := ?_) (by rw [HOPS.out]; simp only [List.getElem?_toArray, List.getElem?_cons_succ, List.getElem?_cons_zero]; exact rfl) (Or.inl ⟨by rw [HOPS.out]; rfl, ?_⟩) ?_
                            rotate_left
                            · (intro w hSw; have hSx := HFA.out _ hSw; (try dsimp only at hSx); clear hSw; go_simp) <;> (with_reducible rfl)
                            simp only [Act.put, List.setIfInBounds_toArray, List.set_cons_zero, List.set_cons_succ]
                            refine walkO_take (o := _) (v := ?_) (by rw [HOPS.out]; simp only [List.getElem?_toArray, List.getElem?_cons_succ, List.getElem?_cons_zero]; exact rfl) (Or.inl ⟨by rw [HOPS.out]; rfl, ?_⟩) ?_
                            rotate_left
                            · (intro w hSw; have hSx := HFA.out _ hSw; (try dsimp only at hSx); clear hSw; go_simp) <;> (with_reducible rfl)
                            simp only [Act.put, List.setIfInBounds_toArray, List.set_cons_zero, List.set_cons_succ]
                            refine walkO_take (o := _) (v := ?_) (by rw [HOPS.out]; simp only [List.getElem?_toArray, List.getElem?_cons_succ, List.getElem?_cons_zero]; exact rfl) (Or.inl ⟨by rw [HOPS.out]; rfl, ?_⟩) ?_
                            rotate_left
                            · (intro w hSw; have hSx := HFA.out _ hSw; (try dsimp only at hSx); clear hSw; go_simp) <;> (with_reducible rfl)
                            simp only [Act.put, List.setIfInBounds_toArray, List.set_cons_zero, List.set_cons_succ]
                            refine walkO_take (o := _) (v := undef) (by rw [HOPS.out]; simp only [List.getElem?_toArray, List.getElem?_cons_succ, List.getElem?_cons_zero]; exact rfl) (Or.inr ⟨by rw [HOPS.out]; rfl, rfl⟩) ?_
                            simp only [Act.put, List.setIfInBounds_toArray, List.set_cons_zero, List.set_cons_succ]
                            refine walkO_take (o := _) (v := undef) (by rw [HOPS.out]; simp only [List.getElem?_toArray, List.getElem?_cons_succ, List.getElem?_cons_zero]; exact rfl) (Or.inr ⟨by rw [HOPS.out]; rfl, rfl⟩) ?_
                            simp only [Act.put, List.setIfInBounds_toArray, List.set_cons_zero, List.set_cons_succ]
                            refine walkO_take (o := _) (v := undef) (by rw [HOPS.out]; simp only [List.getElem?_toArray, List.getElem?_cons_succ, List.getElem?_cons_zero]; exact rfl) (Or.inr ⟨by rw [HOPS.out]; rfl, rfl⟩) ?_
                            simp only [Act.put, List.setIfInBounds_toArray, List.set_cons_zero, List.set_cons_succ]
                            refine walkO_take (o := _) (v := ?_) (by rw [HOPS.out]; simp only [List.getElem?_toArray, List.getElem?_cons_succ, List.getElem?_cons_zero]; exact rfl) (Or.inl ⟨by rw [HOPS.out]; rfl, ?_⟩) ?_
                            rotate_left
                            · (intro w hSw; have hSx := HFA.out _ hSw; (try dsimp only at hSx); clear hSw; go_simp) <;> (with_reducible rfl)
                            simp only [Act.put, List.setIfInBounds_toArray, List.set_cons_zero, List.set_cons_succ]
                            refine walkO_take (o := _) (v := ?_) (by rw [HOPS.out]; simp only [List.getElem?_toArray, List.getElem?_cons_succ, List.getElem?_cons_zero]; exact rfl) (Or.inl ⟨rfl, ?_⟩) ?_
                            rotate_left
                            · (intro w hSw; have hSx := HFA.out _ hSw; (try dsimp only at hSx); clear hSw; go_simp) <;> (with_reducible rfl)
                            simp only [Act.put, List.setIfInBounds_toArray, List.set_cons_zero, List.set_cons_succ]
                            refine walkO_done ?_
                            clear HOPS OPS
                            go_wp2_with fail
                            go_meet
                            exact ⟨true, rfl, fun _ => HEE.out, fun _ => rfl, HF27.out.drew⟩
                          · have hSi : ((sz : Int) == 0) = false := by rw [beq_eq_false_iff_ne]; omega
                            have HSS := Lib.hid hS
                            clear hS
                            by_cases h2 : n % 2 = 0
                            · have h2i : ((n : Int) % 2 == 0) = true := by rw [beq_iff_eq]; omega
                              clear h2
                              go_wp2_with fail
                              have fd : Fr [] wd wd.drew := (Fr.refl _ _).drew
                              refine wp_region_order [(0, true), (1, true), (2, true), (3, true), (4, true), (5, true), (6, true), (7, true), (8, true), (9, true), (10, true), (11, true), (12, true), (13, true), (14, true), (15, true), (16, true), (17, true), (18, true)] (fun w' => Fr [] wd w') (by kernel_rfl) (by kernel_rfl) fd ?_
                              intro OPS HOPS
                              have hops := HOPS.out
                              try simp only [List.append_eq, List.cons_append, List.nil_append] at hops
                              replace HOPS := Lib.hid hops
                              clear hops
                              refine walkO_take (o := _) (v := ?_) (by rw [HOPS.out]; simp only [List.getElem?_toArray, List.getElem?_cons_succ, List.getElem?_cons_zero]; exact rfl) (Or.inl ⟨rfl, ?_⟩) ?_
                              rotate_left
                              · (intro w hSw; have hSx := HFA.out _ hSw; (try dsimp only at hSx); clear hSw; go_simp) <;> (with_reducible rfl)
                              simp only [Act.put, List.setIfInBounds_toArray, List.set_cons_zero, List.set_cons_succ]
                              refine walkO_take (o := _) (v := ?_) (by rw [HOPS.out]; simp only [List.getElem?_toArray, List.getElem?_cons_succ, List.getElem?_cons_zero]; exact rfl) (Or.inl ⟨rfl, ?_⟩) ?_
                              rotate_left
                              · (intro w hSw; have hSx := HFA.out _ hSw; (try dsimp only at hSx); clear hSw; go_simp) <;> (with_reducible rfl)
                              simp only [Act.put, List.setIfInBounds_toArray, List.set_cons_zero, List.set_cons_succ]
                              refine walkO_take (o := _) (v := ?_) (by rw [HOPS.out]; simp only [List.getElem?_toArray, List.getElem?_cons_succ, List.getElem?_cons_zero]; exact rfl) (Or.inl ⟨rfl, ?_⟩) ?_
                              rotate_left
                              · (intro w hSw; have hSx := HFA.out _ hSw; (try dsimp only at hSx); clear hSw; go_simp) <;> (with_reducible rfl)
                              simp only [Act.put, List.setIfInBounds_toArray, List.set_cons_zero, List.set_cons_succ]
                              refine walkO_take (o := _) (v := ?_) (by rw [HOPS.out]; simp only [List.getElem?_toArray, List.getElem?_cons_succ, List.getElem?_cons_zero]; exact rfl) (Or.inl ⟨rfl, ?_⟩) ?_
                              rotate_left
                              · (intro w hSw; have hSx := HFA.out _ hSw; (try dsimp only at hSx); clear hSw; go_simp) <;> (with_reducible rfl)
                              simp only [Act.put, List.setIfInBounds_toArray, List.set_cons_zero, List.set_cons_succ]
                              refine walkO_take (o := _) (v := ?_) (by rw [HOPS.out]; simp only [List.getElem?_toArray, List.getElem?_cons_succ, List.getElem?_cons_zero]; exact rfl) (Or.inl ⟨rfl, ?_⟩) ?_
                              rotate_left
                              · (intro w hSw; have hSx := HFA.out _ hSw; (try dsimp only at hSx); clear hSw; go_simp) <;> (with_reducible rfl)
                              simp only [Act.put, List.setIfInBounds_toArray, List.set_cons_zero, List.set_cons_succ]
                              refine walkO_take (o := _) (v := ?_) (by rw [HOPS.out]; simp only [List.getElem?_toArray, List.getElem?_cons_succ, List.getElem?_cons_zero]; exact rfl) (Or.inl ⟨rfl, ?_⟩) ?_
                              rotate_left
                              · (intro w hSw; have hSx := HFA.out _ hSw; (try dsimp only at hSx); clear hSw; go_simp) <;> (with_reducible rfl)
                              simp only [Act.put, List.setIfInBounds_toArray, List.set_cons_zero, List.set_cons_succ]
                              refine walkO_take (o := _) (v := ?_) (by rw [HOPS.out]; simp only [List.getElem?_toArray, List.getElem?_cons_succ, List.getElem?_cons_zero]; exact rfl) (Or.inl ⟨rfl, ?_⟩) ?_
                              rotate_left
                              · (intro w hSw; have hSx := HFA.out _ hSw; (try dsimp only at hSx); clear hSw; go_simp) <;> (with_reducible rfl)
                              simp only [Act.put, List.setIfInBounds_toArray, List.set_cons_zero, List.set_cons_succ]
                              refine walkO_take (o := _) (v := ?_) (by rw [HOPS.out]; simp only [List.getElem?_toArray, List.getElem?_cons_succ, List.getElem?_cons_zero]; exact rfl) (Or.inl ⟨rfl, ?_⟩) ?_
                              rotate_left
                              · (intro w hSw; have hSx := HFA.out _ hSw; (try dsimp only at hSx); clear hSw; go_simp) <;> (with_reducible rfl)
                              simp only [Act.put, List.setIfInBounds_toArray, List.set_cons_zero, List.set_cons_succ]
                              refine walkO_take (o := _) (v := ?_) (by rw [HOPS.out]; simp only [List.getElem?_toArray, List.getElem?_cons_succ, List.getElem?_cons_zero]; exact rfl) (Or.inl ⟨rfl, ?_⟩) ?_
                              rotate_left
                              · (intro w hSw; have hSx := HFA.out _ hSw; (try dsimp only at hSx); clear hSw; go_simp) <;> (with_reducible rfl)
                              simp only [Act.put, List.setIfInBounds_toArray, List.set_cons_zero, List.set_cons_succ]
                              refine walkO_take (o := _) (v := ?_) (by rw [HOPS.out]; simp only [List.getElem?_toArray, List.getElem?_cons_succ, List.getElem?_cons_zero]; exact rfl) (Or.inl ⟨rfl, ?_⟩) ?_
                              rotate_left
                              · (intro w hSw; have hSx := HFA.out _ hSw; (try dsimp only at hSx); clear hSw; go_simp) <;> (with_reducible rfl)
                              simp only [Act.put, List.setIfInBounds_toArray, List.set_cons_zero, List.set_cons_succ]
                              refine walkO_take (o := _) (v := ?_) (by rw [HOPS.out]; simp only [List.getElem?_toArray, List.getElem?_cons_succ, List.getElem?_cons_zero]; exact rfl) (Or.inl ⟨rfl, ?_⟩) ?_
                              rotate_left
                              · (intro w hSw; have hSx := HFA.out _ hSw; (try dsimp only at hSx); clear hSw; go_simp) <;> (with_reducible rfl)
                              simp only [Act.put, List.setIfInBounds_toArray, List.set_cons_zero, List.set_cons_succ]
                              refine walkO_take (o := _) (v := ?_) (by rw [HOPS.out]; simp only [List.getElem?_toArray, List.getElem?_cons_succ, List.getElem?_cons_zero]; exact rfl) (Or.inl ⟨by rw [HOPS.out]; rfl, ?_⟩) ?_
                              rotate_left
                              · (intro w hSw; have hSx := HFA.out _ hSw; (try dsimp only at hSx); clear hSw; go_simp) <;> (with_reducible rfl)
                              simp only [Act.put, List.setIfInBounds_toArray, List.set_cons_zero, List.set_cons_succ]
                              refine walkO_take (o := _) (v := ?_) (by rw [HOPS.out]; simp only [List.getElem?_toArray, List.getElem?_cons_succ, List.getElem?_cons_zero]; exact rfl) (Or.inl ⟨by rw [HOPS.out]; rfl, ?_⟩) ?_
                              rotate_left
                              · (intro w hSw; have hSx := HFA.out _ hSw; (try dsimp only at hSx); clear hSw; go_simp) <;> (with_reducible rfl)
                              simp only [Act.put, List.setIfInBounds_toArray, List.set_cons_zero, List.set_cons_succ]
                              refine walkO_take (o := _) (v := ?_) (by rw [HOPS.out]; simp only [List.getElem?_toArray, List.getElem?_cons_succ, List.getElem?_cons_zero]; exact rfl) (Or.inl ⟨by rw [HOPS.out]; rfl, ?_⟩) ?_
                              rotate_left
                              · (intro w hSw; have hSx := HFA.out _ hSw; (try dsimp only at hSx); clear hSw; go_simp) <;> (with_reducible rfl)
                              simp only [Act.put, List.setIfInBounds_toArray, List.set_cons_zero, List.set_cons_succ]
                              refine walkO_take (o := _) (v := ?_) (by rw [HOPS.out]; simp only [List.getElem?_toArray, List.getElem?_cons_succ, List.getElem?_cons_zero]; exact rfl) (Or.inl ⟨by rw [HOPS.out]; rfl, ?_⟩) ?_
                              rotate_left
                              · (intro w hSw; have hSx := HFA.out _ hSw; (try dsimp only at hSx); clear hSw; go_simp) <;> (with_reducible rfl)
                              simp only [Act.put, List.setIfInBounds_toArray, List.set_cons_zero, List.set_cons_succ]
                              refine walkO_take (o := _) (v := ?_) (by rw [HOPS.out]; simp only [List.getElem?_toArray, List.getElem?_cons_succ, List.getElem?_cons_zero]; exact rfl) (Or.inl ⟨by rw [HOPS.out]; rfl, ?_⟩) ?_
                              rotate_left
                              · (intro w hSw; have hSx := HFA.out _ hSw; (try dsimp only at hSx); clear hSw; go_simp) <;> (with_reducible rfl)
                              simp only [Act.put, List.setIfInBounds_toArray, List.set_cons_zero, List.set_cons_succ]
                              refine walkO_take (o := _) (v := ?_) (by rw [HOPS.out]; simp only [List.getElem?_toArray, List.getElem?_cons_succ, List.getElem?_cons_zero]; exact rfl) (Or.inl ⟨by rw [HOPS.out]; rfl, ?_⟩) ?_
                              rotate_left
                              · (intro w hSw; have hSx := HFA.out _ hSw; (try dsimp only at hSx); clear hSw; go_simp) <;> (with_reducible rfl)
                              simp only [Act.put, List.setIfInBounds_toArray, List.set_cons_zero, List.set_cons_succ]
                              refine walkO_take (o := _) (v := ?_) (by rw [HOPS.out]; simp only [List.getElem?_toArray, List.getElem?_cons_succ, List.getElem?_cons_zero]; exact rfl) (Or.inl ⟨by rw [HOPS.out]; rfl, ?_⟩) ?_
                              rotate_left
                              · (intro w hSw; have hSx := HFA.out _ hSw; (try dsimp only at hSx); clear hSw; go_simp) <;> (with_reducible rfl)
                              simp only [Act.put, List.setIfInBounds_toArray, List.set_cons_zero, List.set_cons_succ]
                              refine walkO_take (o := _) (v := ?_) (by rw [HOPS.out]; simp only [List.getElem?_toArray, List.getElem?_cons_succ, List.getElem?_cons_zero]; exact rfl) (Or.inl ⟨rfl, ?_⟩) ?_
                              rotate_left
                              · (intro w hSw; have hSx := HFA.out _ hSw; (try dsimp only at hSx); clear hSw; go_simp) <;> (with_reducible rfl)
                              simp only [Act.put, List.setIfInBounds_toArray, List.set_cons_zero, List.set_cons_succ]
                              refine walkO_done ?_
                              clear HOPS OPS
                              go_wp2_with fail
                              go_meet
                              exact ⟨true, rfl, fun _ => HEE.out, fun _ => rfl, HF27.out.drew⟩
                            · have h2i : ((n : Int) % 2 == 0) = false := by rw [beq_eq_false_iff_ne]; omega
                              clear h2
                              go_wp2_with fail
                              have fd : Fr [] wd wd.drew := (Fr.refl _ _).drew
                              refine wp_region_order [(0, true), (1, true), (2, true), (3, true), (4, true), (5, true), (6, true), (7, true), (8, true), (9, true), (10, true), (11, true), (12, true), (13, true), (14, true), (15, true), (16, true), (17, true), (18, true)] (fun w' => Fr [] wd w') (by kernel_rfl) (by kernel_rfl) fd ?_
                              intro OPS HOPS
                              have hops := HOPS.out
                              try simp only [List.append_eq, List.cons_append, List.nil_append] at hops
                              replace HOPS := Lib.hid hops
                              clear hops
                              refine walkO_take (o := _) (v := ?_) (by rw [HOPS.out]; simp only [List.getElem?_toArray, List.getElem?_cons_succ, List.getElem?_cons_zero]; exact rfl) (Or.inl ⟨rfl, ?_⟩) ?_
                              rotate_left
                              · (intro w hSw; have hSx := HFA.out _ hSw; (try dsimp only at hSx); clear hSw; go_simp) <;> (with_reducible rfl)
                              simp only [Act.put, List.setIfInBounds_toArray, List.set_cons_zero, List.set_cons_succ]
                              refine walkO_take (o := _) (v := ?_) (by rw [HOPS.out]; simp only [List.getElem?_toArray, List.getElem?_cons_succ, List.getElem?_cons_zero]; exact rfl) (Or.inl ⟨rfl, ?_⟩) ?_
                              rotate_left
                              · (intro w hSw; have hSx := HFA.out _ hSw; (try dsimp only at hSx); clear hSw; go_simp) <;> (with_reducible rfl)
                              simp only [Act.put, List.setIfInBounds_toArray, List.set_cons_zero, List.set_cons_succ]
                              refine walkO_take (o := _) (v := ?_) (by rw [HOPS.out]; simp only [List.getElem?_toArray, List.getElem?_cons_succ, List.getElem?_cons_zero]; exact rfl) (Or.inl ⟨rfl, ?_⟩) ?_
                              rotate_left
                              · (intro w hSw; have hSx := HFA.out _ hSw; (try dsimp only at hSx); clear hSw; go_simp) <;> (with_reducible rfl)
                              simp only [Act.put, List.setIfInBounds_toArray, List.set_cons_zero, List.set_cons_succ]
                              refine walkO_take (o := _) (v := ?_) (by rw [HOPS.out]; simp only [List.getElem?_toArray, List.getElem?_cons_succ, List.getElem?_cons_zero]; exact rfl) (Or.inl ⟨rfl, ?_⟩) ?_
                              rotate_left
                              · (intro w hSw; have hSx := HFA.out _ hSw; (try dsimp only at hSx); clear hSw; go_simp) <;> (with_reducible rfl)
                              simp only [Act.put, List.setIfInBounds_toArray, List.set_cons_zero, List.set_cons_succ]
                              refine walkO_take (o := _) (v := ?_) (by rw [HOPS.out]; simp only [List.getElem?_toArray, List.getElem?_cons_succ, List.getElem?_cons_zero]; exact rfl) (Or.inl ⟨rfl, ?_⟩) ?_
                              rotate_left
                              · (intro w hSw; have hSx := HFA.out _ hSw; (try dsimp only at hSx); clear hSw; go_simp) <;> (with_reducible rfl)
                              simp only [Act.put, List.setIfInBounds_toArray, List.set_cons_zero, List.set_cons_succ]
                              refine walkO_take (o := _) (v := ?_) (by rw [HOPS.out]; simp only [List.getElem?_toArray, List.getElem?_cons_succ, List.getElem?_cons_zero]; exact rfl) (Or.inl ⟨rfl, ?_⟩) ?_
                              rotate_left
                              · (intro w hSw; have hSx := HFA.out _ hSw; (try dsimp only at hSx); clear hSw; go_simp) <;> (with_reducible rfl)
                              simp only [Act.put, List.setIfInBounds_toArray, List.set_cons_zero, List.set_cons_succ]
                              refine walkO_take (o := _) (v := ?_) (by rw [HOPS.out]; simp only [List.getElem?_toArray, List.getElem?_cons_succ, List.getElem?_cons_zero]; exact rfl) (Or.inl ⟨rfl, ?_⟩) ?_
                              rotate_left
                              · (intro w hSw; have hSx := HFA.out _ hSw; (try dsimp only at hSx); clear hSw; go_simp) <;> (with_reducible rfl)
                              simp only [Act.put, List.setIfInBounds_toArray, List.set_cons_zero, List.set_cons_succ]
                              refine walkO_take (o := _) (v := ?_) (by rw [HOPS.out]; simp only [List.getElem?_toArray, List.getElem?_cons_succ, List.getElem?_cons_zero]; exact rfl) (Or.inl ⟨rfl, ?_⟩) ?_
                              rotate_left
                              · (intro w hSw; have hSx := HFA.out _ hSw; (try dsimp only at hSx); clear hSw; go_simp) <;> (with_reducible rfl)
                              simp only [Act.put, List.setIfInBounds_toArray, List.set_cons_zero, List.set_cons_succ]
                              refine walkO_take (o := _) (v := ?_) (by rw [HOPS.out]; simp only [List.getElem?_toArray, List.getElem?_cons_succ, List.getElem?_cons_zero]; exact rfl) (Or.inl ⟨rfl, ?_⟩) ?_
                              rotate_left
                              · (intro w hSw; have hSx := HFA.out _ hSw; (try dsimp only at hSx); clear hSw; go_simp) <;> (with_reducible rfl)
                              simp only [Act.put, List.setIfInBounds_toArray, List.set_cons_zero, List.set_cons_succ]
                              refine walkO_take (o := _) (v := ?_) (by rw [HOPS.out]; simp only [List.getElem?_toArray, List.getElem?_cons_succ, List.getElem?_cons_zero]; exact rfl) (Or.inl ⟨rfl, ?_⟩) ?_
                              rotate_left
                              · (intro w hSw; have hSx := HFA.out _ hSw; (try dsimp only at hSx); clear hSw; go_simp) <;> (with_reducible rfl)
                              simp only [Act.put, List.setIfInBounds_toArray, List.set_cons_zero, List.set_cons_succ]
                              refine walkO_take (o := _) (v := ?_) (by rw [HOPS.out]; simp only [List.getElem?_toArray, List.getElem?_cons_succ, List.getElem?_cons_zero]; exact rfl) (Or.inl ⟨rfl, ?_⟩) ?_
                              rotate_left
                              · (intro w hSw; have hSx := HFA.out _ hSw; (try dsimp only at hSx); clear hSw; go_simp) <;> (with_reducible rfl)
                              simp only [Act.put, List.setIfInBounds_toArray, List.set_cons_zero, List.set_cons_succ]
                              refine walkO_take (o := _) (v := ?_) (by rw [HOPS.out]; simp only [List.getElem?_toArray, List.getElem?_cons_succ, List.getElem?_cons_zero]; exact rfl) (Or.inl ⟨by rw [HOPS.out]; rfl, ?_⟩) ?_
                              rotate_left
                              · (intro w hSw; have hSx := HFA.out _ hSw; (try dsimp only at hSx); clear hSw; go_simp) <;> (with_reducible rfl)
                              simp only [Act.put, List.setIfInBounds_toArray, List.set_cons_zero, List.set_cons_succ]
                              refine walkO_take (o := _) (v := ?_) (by rw [HOPS.out]; simp only [List.getElem?_toArray, List.getElem?_cons_succ, List.getElem?_cons_zero]; exact rfl) (Or.inl ⟨by rw [HOPS.out]; rfl, ?_⟩) ?_
                              rotate_left
                              · (intro w hSw; have hSx := HFA.out _ hSw; (try dsimp only at hSx); clear hSw; go_simp) <;> (with_reducible rfl)
                              simp only [Act.put, List.setIfInBounds_toArray, List.set_cons_zero, List.set_cons_succ]
                              refine walkO_take (o := _) (v := ?_) (by rw [HOPS.out]; simp only [List.getElem?_toArray, List.getElem?_cons_succ, List.getElem?_cons_zero]; exact rfl) (Or.inl ⟨by rw [HOPS.out]; rfl, ?_⟩) ?_
                              rotate_left
                              · (intro w hSw; have hSx := HFA.out _ hSw; (try dsimp only at hSx); clear hSw; go_simp) <;> (with_reducible rfl)
                              simp only [Act.put, List.setIfInBounds_toArray, List.set_cons_zero, List.set_cons_succ]
                              refine walkO_take (o := _) (v := ?_) (by rw [HOPS.out]; simp only [List.getElem?_toArray, List.getElem?_cons_succ, List.getElem?_cons_zero]; exact rfl) (Or.inl ⟨by rw [HOPS.out]; rfl, ?_⟩) ?_
                              rotate_left
                              · (intro w hSw; have hSx := HFA.out _ hSw; (try dsimp only at hSx); clear hSw; go_simp) <;> (with_reducible rfl)
                              simp only [Act.put, List.setIfInBounds_toArray, List.set_cons_zero, List.set_cons_succ]
                              refine walkO_take (o := _) (v := ?_) (by rw [HOPS.out]; simp only [List.getElem?_toArray, List.getElem?_cons_succ, List.getElem?_cons_zero]; exact rfl) (Or.inl ⟨by rw [HOPS.out]; rfl, ?_⟩) ?_
                              rotate_left
                              · (intro w hSw; have hSx := HFA.out _ hSw; (try dsimp only at hSx); clear hSw; go_simp) <;> (with_reducible rfl)
                              simp only [Act.put, List.setIfInBounds_toArray, List.set_cons_zero, List.set_cons_succ]
                              refine walkO_take (o := _) (v := ?_) (by rw [HOPS.out]; simp only [List.getElem?_toArray, List.getElem?_cons_succ, List.getElem?_cons_zero]; exact rfl) (Or.inl ⟨by rw [HOPS.out]; rfl, ?_⟩) ?_
                              rotate_left
                              · (intro w hSw; have hSx := HFA.out _ hSw; (try dsimp only at hSx); clear hSw; go_simp) <;> (with_reducible rfl)
                              simp only [Act.put, List.setIfInBounds_toArray, List.set_cons_zero, List.set_cons_succ]
                              refine walkO_take (o := _) (v := ?_) (by rw [HOPS.out]; simp only [List.getElem?_toArray, List.getElem?_cons_succ, List.getElem?_cons_zero]; exact rfl) (Or.inl ⟨by rw [HOPS.out]; rfl, ?_⟩) ?_
                              rotate_left
                              · (intro w hSw; have hSx := HFA.out _ hSw; (try dsimp only at hSx); clear hSw; go_simp) <;> (with_reducible rfl)
                              simp only [Act.put, List.setIfInBounds_toArray, List.set_cons_zero, List.set_cons_succ]
                              refine walkO_take (o := _) (v := ?_) (by rw [HOPS.out]; simp only [List.getElem?_toArray, List.getElem?_cons_succ, List.getElem?_cons_zero]; exact rfl) (Or.inl ⟨rfl, ?_⟩) ?_
                              rotate_left
                              · (intro w hSw; have hSx := HFA.out _ hSw; (try dsimp only at hSx); clear hSw; go_simp) <;> (with_reducible rfl)
                              simp only [Act.put, List.setIfInBounds_toArray, List.set_cons_zero, List.set_cons_succ]
                              refine walkO_done ?_
                              clear HOPS OPS
                              go_wp2_with fail
                              go_meet
                              exact ⟨false, rfl, fun h => by simp at h, fun h => absurd h HSS.out, HF27.out.drew⟩
                        · have HEE := Lib.hid hE
                          have hEi : ((a1 : Int) + sz == (Y.length : Int)) = false := by rw [beq_eq_false_iff_ne]; omega
                          clear hE
                          go_wp2_with fail
                          have fd : Fr [] wd wd.drew := (Fr.refl _ _).drew
                          refine wp_region_order [(0, true), (1, true), (2, true), (3, true), (4, true), (5, true), (6, true), (7, true), (8, true), (9, true), (10, true), (11, true), (12, true), (13, true), (14, true), (15, true), (16, true), (17, true), (18, true)] (fun w' => Fr [] wd w') (by kernel_rfl) (by kernel_rfl) fd ?_
                          intro OPS HOPS
                          have hops := HOPS.out
                          try simp only [List.append_eq, List.cons_append, List.nil_append] at hops
                          replace HOPS := Lib.hid hops
                          clear hops
                          refine walkO_take (o := _) (v := ?_) (by rw [HOPS.out]; simp only [List.getElem?_toArray, List.getElem?_cons_succ, List.getElem?_cons_zero]; exact rfl) (Or.inl ⟨rfl, ?_⟩) ?_
                          rotate_left
                          · (intro w hSw; have hSx := HFA.out _ hSw; (try dsimp only at hSx); clear hSw; go_simp) <;> (with_reducible rfl)
                          simp only [Act.put, List.setIfInBounds_toArray, List.set_cons_zero, List.set_cons_succ]
                          refine walkO_take (o := _) (v := ?_) (by rw [HOPS.out]; simp only [List.getElem?_toArray, List.getElem?_cons_succ, List.getElem?_cons_zero]; exact rfl) (Or.inl ⟨rfl, ?_⟩) ?_
                          rotate_left
                          · (intro w hSw; have hSx := HFA.out _ hSw; (try dsimp only at hSx); clear hSw; go_simp) <;> (with_reducible rfl)
                          simp only [Act.put, List.setIfInBounds_toArray, List.set_cons_zero, List.set_cons_succ]
                          refine walkO_take (o := _) (v := ?_) (by rw [HOPS.out]; simp only [List.getElem?_toArray, List.getElem?_cons_succ, List.getElem?_cons_zero]; exact rfl) (Or.inl ⟨rfl, ?_⟩) ?_
                          rotate_left
                          · (intro w hSw; have hSx := HFA.out _ hSw; (try dsimp only at hSx); clear hSw; go_simp) <;> (with_reducible rfl)
                          simp only [Act.put, List.setIfInBounds_toArray, List.set_cons_zero, List.set_cons_succ]
                          refine walkO_take (o := _) (v := ?_) (by rw [HOPS.out]; simp only [List.getElem?_toArray, List.getElem?_cons_succ, List.getElem?_cons_zero]; exact rfl) (Or.inl ⟨rfl, ?_⟩) ?_
                          rotate_left
                          · (intro w hSw; have hSx := HFA.out _ hSw; (try dsimp only at hSx); clear hSw; go_simp) <;> (with_reducible rfl)
                          simp only [Act.put, List.setIfInBounds_toArray, List.set_cons_zero, List.set_cons_succ]
                          refine walkO_take (o := _) (v := ?_) (by rw [HOPS.out]; simp only [List.getElem?_toArray, List.getElem?_cons_succ, List.getElem?_cons_zero]; exact rfl) (Or.inl ⟨rfl, ?_⟩) ?_
                          rotate_left
                          · (intro w hSw; have hSx := HFA.out _ hSw; (try dsimp only at hSx); clear hSw; go_simp) <;> (with_reducible rfl)
                          simp only [Act.put, List.setIfInBounds_toArray, List.set_cons_zero, List.set_cons_succ]
                          refine walkO_take (o := _) (v := ?_) (by rw [HOPS.out]; simp only [List.getElem?_toArray, List.getElem?_cons_succ, List.getElem?_cons_zero]; exact rfl) (Or.inl ⟨rfl, ?_⟩) ?_
                          rotate_left
                          · (intro w hSw; have hSx := HFA.out _ hSw; (try dsimp only at hSx); clear hSw; go_simp) <;> (with_reducible rfl)
                          simp only [Act.put, List.setIfInBounds_toArray, List.set_cons_zero, List.set_cons_succ]
                          refine walkO_take (o := _) (v := ?_) (by rw [HOPS.out]; simp only [List.getElem?_toArray, List.getElem?_cons_succ, List.getElem?_cons_zero]; exact rfl) (Or.inl ⟨rfl, ?_⟩) ?_
                          rotate_left
                          · (intro w hSw; have hSx := HFA.out _ hSw; (try dsimp only at hSx); clear hSw; go_simp) <;> (with_reducible rfl)
                          simp only [Act.put, List.setIfInBounds_toArray, List.set_cons_zero, List.set_cons_succ]
                          refine walkO_take (o := _) (v := ?_) (by rw [HOPS.out]; simp only [List.getElem?_toArray, List.getElem?_cons_succ, List.getElem?_cons_zero]; exact rfl) (Or.inl ⟨rfl, ?_⟩) ?_
                          rotate_left
                          · (intro w hSw; have hSx := HFA.out _ hSw; (try dsimp only at hSx); clear hSw; go_simp) <;> (with_reducible rfl)
                          simp only [Act.put, List.setIfInBounds_toArray, List.set_cons_zero, List.set_cons_succ]
                          refine walkO_take (o := _) (v := ?_) (by rw [HOPS.out]; simp only [List.getElem?_toArray, List.getElem?_cons_succ, List.getElem?_cons_zero]; exact rfl) (Or.inl ⟨rfl, ?_⟩) ?_
                          rotate_left
                          · (intro w hSw; have hSx := HFA.out _ hSw; (try dsimp only at hSx); clear hSw; go_simp) <;> (with_reducible rfl)
                          simp only [Act.put, List.setIfInBounds_toArray, List.set_cons_zero, List.set_cons_succ]
                          refine walkO_take (o := _) (v := ?_) (by rw [HOPS.out]; simp only [List.getElem?_toArray, List.getElem?_cons_succ, List.getElem?_cons_zero]; exact rfl) (Or.inl ⟨rfl, ?_⟩) ?_
                          rotate_left
                          · (intro w hSw; have hSx := HFA.out _ hSw; (try dsimp only at hSx); clear hSw; go_simp) <;> (with_reducible rfl)
                          simp only [Act.put, List.setIfInBounds_toArray, List.set_cons_zero, List.set_cons_succ]
                          refine walkO_take (o := _) (v := ?_) (by rw [HOPS.out]; simp only [List.getElem?_toArray, List.getElem?_cons_succ, List.getElem?_cons_zero]; exact rfl) (Or.inl ⟨rfl, ?_⟩) ?_
                          rotate_left
                          · (intro w hSw; have hSx := HFA.out _ hSw; (try dsimp only at hSx); clear hSw; go_simp) <;> (with_reducible rfl)
                          simp only [Act.put, List.setIfInBounds_toArray, List.set_cons_zero, List.set_cons_succ]
                          refine walkO_take (o := _) (v := undef) (by rw [HOPS.out]; simp only [List.getElem?_toArray, List.getElem?_cons_succ, List.getElem?_cons_zero]; exact rfl) (Or.inr ⟨by rw [HOPS.out]; rfl, rfl⟩) ?_
                          simp only [Act.put, List.setIfInBounds_toArray, List.set_cons_zero, List.set_cons_succ]
                          refine walkO_take (o := _) (v := undef) (by rw [HOPS.out]; simp only [List.getElem?_toArray, List.getElem?_cons_succ, List.getElem?_cons_zero]; exact rfl) (Or.inr ⟨by rw [HOPS.out]; rfl, rfl⟩) ?_
                          simp only [Act.put, List.setIfInBounds_toArray, List.set_cons_zero, List.set_cons_succ]
                          refine walkO_take (o := _) (v := undef) (by rw [HOPS.out]; simp only [List.getElem?_toArray, List.getElem?_cons_succ, List.getElem?_cons_zero]; exact rfl) (Or.inr ⟨by rw [HOPS.out]; rfl, rfl⟩) ?_
                          simp only [Act.put, List.setIfInBounds_toArray, List.set_cons_zero, List.set_cons_succ]
                          refine walkO_take (o := _) (v := undef) (by rw [HOPS.out]; simp only [List.getElem?_toArray, List.getElem?_cons_succ, List.getElem?_cons_zero]; exact rfl) (Or.inr ⟨by rw [HOPS.out]; rfl, rfl⟩) ?_
                          simp only [Act.put, List.setIfInBounds_toArray, List.set_cons_zero, List.set_cons_succ]
                          refine walkO_take (o := _) (v := undef) (by rw [HOPS.out]; simp only [List.getElem?_toArray, List.getElem?_cons_succ, List.getElem?_cons_zero]; exact rfl) (Or.inr ⟨by rw [HOPS.out]; rfl, rfl⟩) ?_
                          simp only [Act.put, List.setIfInBounds_toArray, List.set_cons_zero, List.set_cons_succ]
                          refine walkO_take (o := _) (v := undef) (by rw [HOPS.out]; simp only [List.getElem?_toArray, List.getElem?_cons_succ, List.getElem?_cons_zero]; exact rfl) (Or.inr ⟨by rw [HOPS.out]; rfl, rfl⟩) ?_
                          simp only [Act.put, List.setIfInBounds_toArray, List.set_cons_zero, List.set_cons_succ]
                          refine walkO_take (o := _) (v := undef) (by rw [HOPS.out]; simp only [List.getElem?_toArray, List.getElem?_cons_succ, List.getElem?_cons_zero]; exact rfl) (Or.inr ⟨by rw [HOPS.out]; rfl, rfl⟩) ?_
                          simp only [Act.put, List.setIfInBounds_toArray, List.set_cons_zero, List.set_cons_succ]
                          refine walkO_take (o := _) (v := ?_) (by rw [HOPS.out]; simp only [List.getElem?_toArray, List.getElem?_cons_succ, List.getElem?_cons_zero]; exact rfl) (Or.inl ⟨rfl, ?_⟩) ?_
                          rotate_left
                          · (intro w hSw; have hSx := HFA.out _ hSw; (try dsimp only at hSx); clear hSw; go_simp) <;> (with_reducible rfl)
                          simp only [Act.put, List.setIfInBounds_toArray, List.set_cons_zero, List.set_cons_succ]
                          refine walkO_done ?_
                          clear HOPS OPS
                          go_wp2_with fail
                          go_meet
                          exact ⟨false, rfl, fun h => by simp at h, fun h => absurd (HSZ.out.2.2.1 h) HEE.out, HF27.out.drew⟩
                    case rest =>
                      obtain ⟨bb, rfl, hb1, hb2, fx⟩ := hcut
                      have HBB := Lib.hid (And.intro hb1 hb2)
                      have HFX := Lib.hid fx
                      clear hb1 hb2 fx c00 c01 c10 c11 w0_ w1_ w2_ w3_ w4_
                      go_upto_if 178 with fail
                      go_cut [24] (fun v wy => ∃ cd : Int, v = .int .i64 cd ∧ (cd = 0 ∨ cd = 13 ∧ a1 + sz = Y.length) ∧ (sz = 0 → cd = 13) ∧ Hid (Fr [] w7 wy))
                      case first =>
                        as_aux_lemma =>
                          cases bb with
                          | true =>
                            have HB1 := Lib.hid (HBB.out.1 rfl)
                            go_wp2_with fail
                            go_meet
                            exact ⟨13, rfl, .inr ⟨rfl, HB1.out⟩, fun _ => rfl, HFX⟩
                          | false =>
                            have HB1 : Hid (sz = 0 → False) := Lib.hid (fun h => by have h2 := HBB.out.2 h; cases h2)
                            go_wp2_with fail
                            go_meet
                            exact ⟨0, rfl, .inl rfl, fun h => (HB1.out h).elim, HFX⟩
                      case rest =>
                        obtain ⟨cd, rfl, hcd1, hcd2, HFY⟩ := hcut
                        rename World => w8
                        have hz8 := HFY.out.size
                        have HMX := Lib.hid (HM7.out.keep0 HFY.out)
                        have HBX := Lib.hid (HB7.out.keep0 HFY.out)
                        have HGX := Lib.hid (HG7.out.then0 HFY.out)
                        have HWX := Lib.hid (HFY.out.keep HW7.out (by simp))
                        clear HFX HFY HBB HM7 HB7 HW7
                        have hge : gotE s.t1 ((Y.drop a1).take sz) cd = 0 := by obtain ⟨_, g, _⟩ := HR.out.r1; exact (g.read HMX.out.sp.h1.ok hc hk1 HSZ.out.1 HSZ.out.2.1 hcd1 hcd2).1
                        have HRN := Lib.hid (HR.out.turn1 (s' := gotS1 s ((Y.drop a1).take sz) cd) (a' := a1 + sz) hni rfl rfl (.inl rfl) (gotT_ok HMX.out.sp.h1.ok _ _) (fun m g => (g.read HMX.out.sp.h1.ok hc hk1 HSZ.out.1 HSZ.out.2.1 hcd1 hcd2).2))
                        have HAR := Lib.hid fun (w' : World) (f : Fr [] w w') => (HYN.out w' f).cut (lo := a1) (k := sz) HSZ.out.1
                        have HCC := Lib.hid fun w' (f : Fr [] w8 w') => got_sp1 (pc := yc - a1) (HMX.out.sp.keep0 f) (big_ok22 HRD.out.2) (HAR.out w' (HGX.out.then0 f)).sl (HAR.out w' (HGX.out.then0 f)).len_eq (small_ok22 (HAR.out w' (HGX.out.then0 f)).len_eq HSZ.out.2.2.2) cd hge rfl
                        have hlo := HMX.out.lo
                        have hbl : ∀ x ∈ [b, W, b0, b1], w.heap.size ≤ x ∧ x < Q := by intro x hx; simp at hx; omega
                        have hKBQ : Q + 4 ≤ KB := by omega
                        have hzc : Y.length ≤ yc := (HYN.out _ HGX.out).le
                        have HRUN := Lib.hid fun (w' : World) => (by have h := run_cutp (pa := ya) (plen := Y.length) (pcap := yc) (l := a1) (h := a1 + sz) (by omega) (by have := HSZ.out.1; omega) w'; rw [Nat.add_sub_cancel_left] at h; exact h : (Instr.slice 22 (.slice ya Y.length yc) (some (.int .i64 a1)) (some (.int .i64 ((a1 : Int) + (sz : Int)))) none).run Try.prog w' = .ok (.slice (cutp ya yc a1) sz (yc - a1)) w')
                        have HFA := Lib.hid fun (w' : World) (f : Fr [b, W, b0, b1] w8 w') => (show w'.cell? ⟨KB, 1, none⟩ = some (.int .i64 1) ∧ w'.cell? ⟨Q, 1, none⟩ = some (.slice ya Y.length yc) ∧ w'.cell? ⟨Q + 1, 1, none⟩ = some (.int .i64 a1) ∧ (Instr.slice 22 (.slice ya Y.length yc) (some (.int .i64 a1)) (some (.int .i64 ((a1 : Int) + (sz : Int)))) none).run Try.prog w' = .ok (.slice (cutp ya yc a1) sz (yc - a1)) w' from ⟨cell_of (f.keep HWX.out (fun hm => by have := (hbl _ hm).2; omega)), cell_of (f.keep HBX.out.q0 (fun hm => by have := (hbl _ hm).2; omega)), cell_of (f.keep HBX.out.q1 (fun hm => by have := (hbl _ hm).2; omega)), HRUN.out w'⟩)
                        have HEC := Lib.hid (Go.Proofs.enters_of Try.func33 (by kernel_rfl) rfl)
                        have HBL := Lib.hid hbl
                        clear hlo hbl hc hk1 hts hcd1 hcd2 hge HAR HRUN hzc
                        go_wp2_with fail
                        have fd : Fr [] w8 w8.drew := (Fr.refl _ _).drew
                        have fdS : Fr [b, W, b0, b1] w8 w8.drew := fd.trans (Fr.refl _ _ : Fr [b, W, b0, b1] _ _) (by simp) (fun x hx => .inl hx)
                        refine wp_region_order [(0, true), (1, true), (2, true), (3, true), (4, true), (5, true), (6, true), (7, true), (8, true), (9, true), (10, true), (11, true), (12, true), (13, true), (14, true), (15, true), (16, true), (17, true), (18, true), (19, true), (20, false), (21, true), (22, true)] (fun w' => Fr [b, W, b0, b1] w8 w') (by kernel_rfl) (by kernel_rfl) fdS ?_
                        intro OPS HOPS
                        have hops := HOPS.out
                        try simp only [List.append_eq, List.cons_append, List.nil_append] at hops
                        replace HOPS := Lib.hid hops
                        clear hops
                        refine walkO_take (o := _) (v := ?_) (by rw [HOPS.out]; simp only [List.getElem?_toArray, List.getElem?_cons_succ, List.getElem?_cons_zero]; exact rfl) (Or.inl ⟨rfl, ?_⟩) ?_
                        rotate_left
                        · (intro w hSw; have hSx := HFA.out _ hSw; (try dsimp only at hSx); clear hSw; go_simp) <;> (with_reducible rfl)
                        simp only [Act.put, List.setIfInBounds_toArray, List.set_cons_zero, List.set_cons_succ]
                        refine walkO_take (o := _) (v := ?_) (by rw [HOPS.out]; simp only [List.getElem?_toArray, List.getElem?_cons_succ, List.getElem?_cons_zero]; exact rfl) (Or.inl ⟨rfl, ?_⟩) ?_
                        rotate_left
                        · (intro w hSw; have hSx := HFA.out _ hSw; (try dsimp only at hSx); clear hSw; go_simp) <;> (with_reducible rfl)
                        simp only [Act.put, List.setIfInBounds_toArray, List.set_cons_zero, List.set_cons_succ]
                        refine walkO_take (o := _) (v := ?_) (by rw [HOPS.out]; simp only [List.getElem?_toArray, List.getElem?_cons_succ, List.getElem?_cons_zero]; exact rfl) (Or.inl ⟨rfl, ?_⟩) ?_
                        rotate_left
                        · (intro w hSw; have hSx := HFA.out _ hSw; (try dsimp only at hSx); clear hSw; go_simp) <;> (with_reducible rfl)
                        simp only [Act.put, List.setIfInBounds_toArray, List.set_cons_zero, List.set_cons_succ]
                        refine walkO_take (o := _) (v := ?_) (by rw [HOPS.out]; simp only [List.getElem?_toArray, List.getElem?_cons_succ, List.getElem?_cons_zero]; exact rfl) (Or.inl ⟨rfl, ?_⟩) ?_
                        rotate_left
                        · (intro w hSw; have hSx := HFA.out _ hSw; (try dsimp only at hSx); clear hSw; go_simp) <;> (with_reducible rfl)
                        simp only [Act.put, List.setIfInBounds_toArray, List.set_cons_zero, List.set_cons_succ]
                        refine walkO_take (o := _) (v := ?_) (by rw [HOPS.out]; simp only [List.getElem?_toArray, List.getElem?_cons_succ, List.getElem?_cons_zero]; exact rfl) (Or.inl ⟨rfl, ?_⟩) ?_
                        rotate_left
                        · (intro w hSw; have hSx := HFA.out _ hSw; (try dsimp only at hSx); clear hSw; go_simp) <;> (with_reducible rfl)
                        simp only [Act.put, List.setIfInBounds_toArray, List.set_cons_zero, List.set_cons_succ]
                        refine walkO_take (o := _) (v := ?_) (by rw [HOPS.out]; simp only [List.getElem?_toArray, List.getElem?_cons_succ, List.getElem?_cons_zero]; exact rfl) (Or.inl ⟨by rw [HOPS.out]; rfl, ?_⟩) ?_
                        rotate_left
                        · (intro w hSw; have hSx := HFA.out _ hSw; (try dsimp only at hSx); clear hSw; go_simp) <;> (with_reducible rfl)
                        simp only [Act.put, List.setIfInBounds_toArray, List.set_cons_zero, List.set_cons_succ]
                        refine walkO_take (o := _) (v := ?_) (by rw [HOPS.out]; simp only [List.getElem?_toArray, List.getElem?_cons_succ, List.getElem?_cons_zero]; exact rfl) (Or.inl ⟨by rw [HOPS.out]; rfl, ?_⟩) ?_
                        rotate_left
                        · (intro w hSw; have hSx := HFA.out _ hSw; (try dsimp only at hSx); clear hSw; go_simp) <;> (with_reducible rfl)
                        simp only [Act.put, List.setIfInBounds_toArray, List.set_cons_zero, List.set_cons_succ]
                        refine walkO_take (o := _) (v := ?_) (by rw [HOPS.out]; simp only [List.getElem?_toArray, List.getElem?_cons_succ, List.getElem?_cons_zero]; exact rfl) (Or.inl ⟨by rw [HOPS.out]; rfl, ?_⟩) ?_
                        rotate_left
                        · (intro w hSw; have hSx := HFA.out _ hSw; (try dsimp only at hSx); clear hSw; go_simp) <;> (with_reducible rfl)
                        simp only [Act.put, List.setIfInBounds_toArray, List.set_cons_zero, List.set_cons_succ]
                        refine walkO_take (o := _) (v := ?_) (by rw [HOPS.out]; simp only [List.getElem?_toArray, List.getElem?_cons_succ, List.getElem?_cons_zero]; exact rfl) (Or.inl ⟨by rw [HOPS.out]; rfl, ?_⟩) ?_
                        rotate_left
                        · (intro w hSw; have hSx := HFA.out _ hSw; (try dsimp only at hSx); clear hSw; go_simp) <;> (with_reducible rfl)
                        simp only [Act.put, List.setIfInBounds_toArray, List.set_cons_zero, List.set_cons_succ]
                        refine walkO_take (o := _) (v := ?_) (by rw [HOPS.out]; simp only [List.getElem?_toArray, List.getElem?_cons_succ, List.getElem?_cons_zero]; exact rfl) (Or.inl ⟨by rw [HOPS.out]; rfl, ?_⟩) ?_
                        rotate_left
                        · (intro w hSw; have hSx := HFA.out _ hSw; (try dsimp only at hSx); clear hSw; go_simp) <;> (with_reducible rfl)
                        simp only [Act.put, List.setIfInBounds_toArray, List.set_cons_zero, List.set_cons_succ]
                        refine walkO_take (o := _) (v := ?_) (by rw [HOPS.out]; simp only [List.getElem?_toArray, List.getElem?_cons_succ, List.getElem?_cons_zero]; exact rfl) (Or.inl ⟨by rw [HOPS.out]; rfl, ?_⟩) ?_
                        rotate_left
                        · (intro w hSw; have hSx := HFA.out _ hSw; (try dsimp only at hSx); clear hSw; go_simp) <;> (with_reducible rfl)
                        simp only [Act.put, List.setIfInBounds_toArray, List.set_cons_zero, List.set_cons_succ]
                        refine walkO_take (o := _) (v := ?_) (by rw [HOPS.out]; simp only [List.getElem?_toArray, List.getElem?_cons_succ, List.getElem?_cons_zero]; exact rfl) (Or.inl ⟨by rw [HOPS.out]; rfl, ?_⟩) ?_
                        rotate_left
                        · (intro w hSw; have hSx := HFA.out _ hSw; (try dsimp only at hSx); clear hSw; go_simp) <;> (with_reducible rfl)
                        simp only [Act.put, List.setIfInBounds_toArray, List.set_cons_zero, List.set_cons_succ]
                        refine walkO_take (o := _) (v := ?_) (by rw [HOPS.out]; simp only [List.getElem?_toArray, List.getElem?_cons_succ, List.getElem?_cons_zero]; exact rfl) (Or.inl ⟨by rw [HOPS.out]; rfl, ?_⟩) ?_
                        rotate_left
                        · (intro w hSw; have hSx := HFA.out _ hSw; (try dsimp only at hSx); clear hSw; go_simp) <;> (with_reducible rfl)
                        simp only [Act.put, List.setIfInBounds_toArray, List.set_cons_zero, List.set_cons_succ]
                        refine walkO_take (o := _) (v := ?_) (by rw [HOPS.out]; simp only [List.getElem?_toArray, List.getElem?_cons_succ, List.getElem?_cons_zero]; exact rfl) (Or.inl ⟨by rw [HOPS.out]; rfl, ?_⟩) ?_
                        rotate_left
                        · (intro w hSw; have hSx := HFA.out _ hSw; (try dsimp only at hSx); clear hSw; go_simp) <;> (with_reducible rfl)
                        simp only [Act.put, List.setIfInBounds_toArray, List.set_cons_zero, List.set_cons_succ]
                        refine walkO_take (o := _) (v := ?_) (by rw [HOPS.out]; simp only [List.getElem?_toArray, List.getElem?_cons_succ, List.getElem?_cons_zero]; exact rfl) (Or.inl ⟨by rw [HOPS.out]; rfl, ?_⟩) ?_
                        rotate_left
                        · (intro w hSw; have hSx := HFA.out _ hSw; (try dsimp only at hSx); clear hSw; go_simp) <;> (with_reducible rfl)
                        simp only [Act.put, List.setIfInBounds_toArray, List.set_cons_zero, List.set_cons_succ]
                        refine walkO_take (o := _) (v := ?_) (by rw [HOPS.out]; simp only [List.getElem?_toArray, List.getElem?_cons_succ, List.getElem?_cons_zero]; exact rfl) (Or.inl ⟨by rw [HOPS.out]; rfl, ?_⟩) ?_
                        rotate_left
                        · (intro w hSw; have hSx := HFA.out _ hSw; (try dsimp only at hSx); clear hSw; go_simp) <;> (with_reducible rfl)
                        simp only [Act.put, List.setIfInBounds_toArray, List.set_cons_zero, List.set_cons_succ]
                        refine walkO_take (o := _) (v := ?_) (by rw [HOPS.out]; simp only [List.getElem?_toArray, List.getElem?_cons_succ, List.getElem?_cons_zero]; exact rfl) (Or.inl ⟨by rw [HOPS.out]; rfl, ?_⟩) ?_
                        rotate_left
                        · (intro w hSw; have hSx := HFA.out _ hSw; (try dsimp only at hSx); clear hSw; go_simp) <;> (with_reducible rfl)
                        simp only [Act.put, List.setIfInBounds_toArray, List.set_cons_zero, List.set_cons_succ]
                        refine walkO_take (o := _) (v := ?_) (by rw [HOPS.out]; simp only [List.getElem?_toArray, List.getElem?_cons_succ, List.getElem?_cons_zero]; exact rfl) (Or.inl ⟨by rw [HOPS.out]; rfl, ?_⟩) ?_
                        rotate_left
                        · (intro w hSw; have hSx := HFA.out _ hSw; (try dsimp only at hSx); clear hSw; go_simp) <;> (with_reducible rfl)
                        simp only [Act.put, List.setIfInBounds_toArray, List.set_cons_zero, List.set_cons_succ]
                        refine walkO_take (o := _) (v := ?_) (by rw [HOPS.out]; simp only [List.getElem?_toArray, List.getElem?_cons_succ, List.getElem?_cons_zero]; exact rfl) (Or.inl ⟨by rw [HOPS.out]; rfl, ?_⟩) ?_
                        rotate_left
                        · (intro w hSw; have hSx := HFA.out _ hSw; (try dsimp only at hSx); clear hSw; go_simp) <;> (with_reducible rfl)
                        simp only [Act.put, List.setIfInBounds_toArray, List.set_cons_zero, List.set_cons_succ]
                        refine walkO_take (o := _) (v := ?_) (by rw [HOPS.out]; simp only [List.getElem?_toArray, List.getElem?_cons_succ, List.getElem?_cons_zero]; exact rfl) (Or.inl ⟨by rw [HOPS.out]; rfl, ?_⟩) ?_
                        rotate_left
                        · (intro w hSw; have hSx := HFA.out _ hSw; (try dsimp only at hSx); clear hSw; go_simp) <;> (with_reducible rfl)
                        simp only [Act.put, List.setIfInBounds_toArray, List.set_cons_zero, List.set_cons_succ]
                        refine walkO_call (o := _) (by rw [HOPS.out]; simp only [List.getElem?_toArray, List.getElem?_cons_succ, List.getElem?_cons_zero]; exact rfl) (fun K HK => ?_)
                        refine step_call (by rw [HOPS.out]; rfl) 33 #[(.tmp 184), (.tmp 185), (.tmp 197), (.tmp 198)] #[68, 3, 22, 23] rfl HEC.out #[.pointer (some ⟨b, 0, none⟩), .int .i64 1, .slice (cutp ya yc a1) sz (yc - a1), .int .i64 cd] (by simp [Act.eval]) (HCC.out _ fd) ?_
                        rintro e w9 ⟨rfl, f9', hS9⟩
                        have f9 : Fr [b, W, b0, b1] w8 w9 := fdS.trans f9' (fun x hx => .inl hx) (fun x hx => .inl hx)
                        refine ⟨_, rfl, ?_⟩
                        refine HK.out (fun w' => Fr [b, W, b0, b1] w8 w') _ _ (fun _ h => h) (f9) ?_
                        clear HK K
                        simp only [Act.put, List.setIfInBounds_toArray, List.set_cons_zero, List.set_cons_succ]
                        refine walkO_take (o := _) (v := ?_) (by rw [HOPS.out]; simp only [List.getElem?_toArray, List.getElem?_cons_succ, List.getElem?_cons_zero]; exact rfl) (Or.inl ⟨by rw [HOPS.out]; rfl, ?_⟩) ?_
                        rotate_left
                        · (intro w hSw; have hSx := HFA.out _ hSw; (try dsimp only at hSx); clear hSw; go_simp) <;> (with_reducible rfl)
                        simp only [Act.put, List.setIfInBounds_toArray, List.set_cons_zero, List.set_cons_succ]
                        refine walkO_take (o := _) (v := ?_) (by rw [HOPS.out]; simp only [List.getElem?_toArray, List.getElem?_cons_succ, List.getElem?_cons_zero]; exact rfl) (Or.inl ⟨rfl, ?_⟩) ?_
                        rotate_left
                        · (intro w hSw; have hSx := HFA.out _ hSw; (try dsimp only at hSx); clear hSw; go_simp) <;> (with_reducible rfl)
                        simp only [Act.put, List.setIfInBounds_toArray, List.set_cons_zero, List.set_cons_succ]
                        refine walkO_done ?_
                        clear HOPS OPS
                        have hm9 := HMX.out.call f9 hS9
                        have hb9 := HBX.out.keep f9 (fun x hx => .inl (HBL.out x hx).2)
                        have g9 := HGX.out.trans f9 (U := []) (by simp) (fun x hx => .inr (HBL.out x hx).1)
                        obtain ⟨_, _, c10, c11, _, _, _, _⟩ := hb9.cells
                        obtain ⟨_, y1, _, _⟩ := hb9.free 1
                        have hb10 := hb9.set11 (a1 + sz)
                        have hm10 := hm9.box (k := 1) (i := 1) (by omega) (.int .i64 ((a1 + sz : Nat) : Int))
                        have f10 : Fr [Q + 1] w9 (w9.setCell ⟨Q + 1, 1, none⟩ (.int .i64 ((a1 + sz : Nat) : Int))) := (Fr.refl _ _).setCell (.inl (by simp)) _
                        have hwQ : w.heap.size ≤ Q := by have := HMX.out.lo; omega
                        have H10 := Lib.hid (And.intro hm10 (And.intro hb10 (g9.trans f10 (U := []) (by simp) (fun x hx => .inr (by simp at hx; omega)))))
                        have hws2 : IntKind.i64.wrap ((a1 : Int) + (sz : Int)) = ((a1 + sz : Nat) : Int) := by rw [hws]; rfl
                        clear hws hm9 hb9 g9 hb10 hm10 f10 f9 f9' fd fdS hS9 HFA HCC HEC
                        go_wp2_with fail
                        go_roundw
                        case rel => exact ⟨n + 1, gotS1 s ((Y.drop a1).take sz) cd, N0, N1, u0, u1, O0, O1, a0, a1 + sz, s0, s1, by omega, by go_num, Lib.hid H10.out.1, Lib.hid H10.out.2.1, Lib.hid HRN.out, Lib.hid H10.out.2.2⟩
                        case measure => simp [intOf]; omega
                · as_aux_lemma =>
                    injection hx with hx1 hx2 hx3 hx4 hx5
                    subst hx1 hx4
                    have hsd : sd = 0 := by rw [hx2]; rfl
                    subst hsd
                    obtain ⟨d, hdd⟩ : ∃ d, s.t1.s = d := ⟨_, rfl⟩
                    have hdl : 0 < s.t1.s.length := List.length_pos_iff.2 hts
                    obtain ⟨z2, hz3⟩ : ∃ z2 : Nat, min z s.t1.s.length = z2 := ⟨_, rfl⟩
                    have hmin : min (z : Int) (s.t1.s.length : Int) = (z2 : Int) := by omega
                    have hz4 : 1 ≤ z2 := by omega
                    have hz5_ : z2 ≤ s.t1.s.length := by omega
                    have hw0 : wroteE s.t1 z2 0 = 0 := by obtain ⟨_, g, _⟩ := HR.out.r1; exact (g.write hc hk1 hz4 hz5_).1
                    have HRN := Lib.hid (HR.out.turn1 (s' := wroteS1 s z2 0) (O' := O0 ++ s.t1.s.take z2) hni rfl rfl (.inl rfl) (by have h := (HM7.out.sp.h1.ok); exact wroteT_ok h _ _) (fun m g => (g.write hc hk1 hz4 hz5_).2))
                    have HCC := Lib.hid (wrote_sp1 HM7.out.sp (by have := HRD.out; omega) z2 0 hw0 rfl)
                    obtain ⟨ra, rc, rfl, _⟩ := Ow.formC HM7.out.r0
                    have hol : O0.length ≤ 200 ∧ s.t1.s.length ≤ 200 := by obtain ⟨_, g, _⟩ := HR.out.r1; have h1 := g.olen; have h2 := g.at_le; omega
                    have HDL := Lib.hid (And.intro hz5_ hol)
                    have hwo : IntKind.i64.wrap 0 = 0 := by decide
                    have hx_1 : ¬ ((z2 : Int) < 1) := by omega
                    have hx_2 : ¬ (z2 < 1) := by omega
                    have hx_3 : ¬ (z2 = 0) := by omega
                    generalize s.t1.s = d at *
                    clear hc hk1 hts hx2 hx3 hx5 hw0 hol hdl hz3 hz5_ hdd
                    obtain ⟨w0_, w1_, w2_, w3_, w4_⟩ := WBcells5 HW7.out
                    go_wp2_with fail
                    refine HCC.out.mono ?_
                    rintro e' w8 ⟨rfl, f8, hS8⟩
                    dsimp only
                    have hlo := HM7.out.lo
                    have hbl : ∀ x ∈ [b, W, b0, b1], w.heap.size ≤ x ∧ x < Q := by intro x hx; simp at hx; omega
                    have hKBQ : Q + 4 ≤ KB := by omega
                    have hm8 := Lib.hid (HM7.out.call f8 hS8)
                    have hb8 := Lib.hid (HB7.out.keep f8 (fun x hx => .inl (hbl x hx).2))
                    have g8 := Lib.hid (HG7.out.trans f8 (U := []) (by simp) (fun x hx => .inr (hbl x hx).1))
                    have HW8 := Lib.hid (f8.keep HW7.out (fun hm => by have := (hbl _ hm).2; omega))
                    have HS8 := Lib.hid (sl_keep HGS.out.1 f8 (fun h0 b' o' e hm => by have := (hbl _ hm).2; have := HGB.out b' o' e; omega))
                    clear hlo hbl hS8 f8 HCC w0_ w1_ w2_ w3_ w4_
                    go_wp2_with fail
                    have HOW := Lib.hid hm8.out.r0
                    have hz8 := hm8.out.hq
                    have HSV : Hid (SlV w8 g ((bi (d.take z2)).map (Value.int .u8))) := Lib.hid (by rw [bi_take, List.map_take]; exact (HS8.out.toV).take z2)
                    have H3 : Hid (((bi O0).map (Value.int .u8)).length + z2 ≤ maxLen) := Lib.hid (by have := HDL.out; rw [List.length_map, bi_length]; unfold maxLen; omega)
                    have H4 : Hid ((((bi O0).map (Value.int .u8)).length + z2) * 1 ≤ 140737488355328) := Lib.hid (by have := HDL.out; rw [List.length_map, bi_length]; omega)
                    have H5 : Hid (((bi (d.take z2)).map (Value.int .u8)).length = z2) := Lib.hid (by have := HDL.out; rw [List.length_map, bi_length, List.length_take]; omega)
                    have HO1 := Lib.hid (oneCell_bytes (bi (d.take z2)))
                    have HUU : Hid (Try.prog.underlying 22 = some (.slice 5)) := Lib.hid Try.underlying22
                    have HIN : Hid ((Try.prog.info? 5).map (fun i => (i.zero, i.size, i.bytes)) = some (some (.int .u8 0), 1, 1)) := Lib.hid (by kernel_rfl)
                    have hrb : ∀ x ∈ (Value.slice ra O0.length rc).ownBlock.toList, Q + 4 ≤ x ∧ x < KB := fun x hx => ⟨(HOW.out.lt x (by simpa using hx)).1, HROW.out.1 x (by simpa using hx)⟩
                    have HFA := Lib.hid fun (w' : World) (f : Fr (Value.slice ra O0.length rc).ownBlock.toList w8 w') => (show w'.cell? ⟨Q + 2, 0, none⟩ = some (.slice ra O0.length rc) ∧ w'.cell? ⟨KB, 3, none⟩ = some (.slice g d.length j) ∧ (Instr.slice 22 (.slice g d.length j) none (some (.int .i64 z2)) none).run Try.prog w' = .ok (.slice g z2 j) w' from ⟨cell_of (f.keep hb8.out.q2 (fun hm => by have := (hrb _ hm).1; omega)), cell_of (f.keep HW8.out (fun hm => by have := (hrb _ hm).2; omega)), run_upto HDL.out.1 HGS.out.2 w'⟩)
                    have fd : Fr [] w8 w8.drew := (Fr.refl _ _).drew
                    have fdS : Fr (Value.slice ra O0.length rc).ownBlock.toList w8 w8.drew := fd.trans (Fr.refl _ _ : Fr (Value.slice ra O0.length rc).ownBlock.toList _ _) (by simp) (fun x hx => .inl hx)
                    refine wp_region_till [(0, true), (1, true), (2, true), (3, true), (4, true), (5, true), (6, true), (7, true), (8, true), (9, true), (10, false), (11, true)] [12] (fun w' => Fr (Value.slice ra O0.length rc).ownBlock.toList w8 w') (by kernel_rfl) (by kernel_rfl) fdS ?_
                    intro OPS HOPS
                    have hops := HOPS.out
                    try simp only [List.append_eq, List.cons_append, List.nil_append] at hops
                    replace HOPS := Lib.hid hops
                    clear hops
                    refine walkX_take (o := _) (v := ?_) (by rw [HOPS.out]; simp only [List.getElem?_toArray, List.getElem?_cons_succ, List.getElem?_cons_zero]; exact rfl) (Or.inl ⟨rfl, ?_⟩) ?_
                    rotate_left
                    · (intro w hSw; have hSx := HFA.out _ hSw; (try dsimp only at hSx); clear hSw; go_simp) <;> (with_reducible rfl)
                    simp only [Act.put, List.setIfInBounds_toArray, List.set_cons_zero, List.set_cons_succ]
                    refine walkX_take (o := _) (v := ?_) (by rw [HOPS.out]; simp only [List.getElem?_toArray, List.getElem?_cons_succ, List.getElem?_cons_zero]; exact rfl) (Or.inl ⟨rfl, ?_⟩) ?_
                    rotate_left
                    · (intro w hSw; have hSx := HFA.out _ hSw; (try dsimp only at hSx); clear hSw; go_simp) <;> (with_reducible rfl)
                    simp only [Act.put, List.setIfInBounds_toArray, List.set_cons_zero, List.set_cons_succ]
                    refine walkX_take (o := _) (v := ?_) (by rw [HOPS.out]; simp only [List.getElem?_toArray, List.getElem?_cons_succ, List.getElem?_cons_zero]; exact rfl) (Or.inl ⟨rfl, ?_⟩) ?_
                    rotate_left
                    · (intro w hSw; have hSx := HFA.out _ hSw; (try dsimp only at hSx); clear hSw; go_simp) <;> (with_reducible rfl)
                    simp only [Act.put, List.setIfInBounds_toArray, List.set_cons_zero, List.set_cons_succ]
                    refine walkX_take (o := _) (v := ?_) (by rw [HOPS.out]; simp only [List.getElem?_toArray, List.getElem?_cons_succ, List.getElem?_cons_zero]; exact rfl) (Or.inl ⟨rfl, ?_⟩) ?_
                    rotate_left
                    · (intro w hSw; have hSx := HFA.out _ hSw; (try dsimp only at hSx); clear hSw; go_simp) <;> (with_reducible rfl)
                    simp only [Act.put, List.setIfInBounds_toArray, List.set_cons_zero, List.set_cons_succ]
                    refine walkX_take (o := _) (v := ?_) (by rw [HOPS.out]; simp only [List.getElem?_toArray, List.getElem?_cons_succ, List.getElem?_cons_zero]; exact rfl) (Or.inl ⟨rfl, ?_⟩) ?_
                    rotate_left
                    · (intro w hSw; have hSx := HFA.out _ hSw; (try dsimp only at hSx); clear hSw; go_simp) <;> (with_reducible rfl)
                    simp only [Act.put, List.setIfInBounds_toArray, List.set_cons_zero, List.set_cons_succ]
                    refine walkX_take (o := _) (v := ?_) (by rw [HOPS.out]; simp only [List.getElem?_toArray, List.getElem?_cons_succ, List.getElem?_cons_zero]; exact rfl) (Or.inl ⟨rfl, ?_⟩) ?_
                    rotate_left
                    · (intro w hSw; have hSx := HFA.out _ hSw; (try dsimp only at hSx); clear hSw; go_simp) <;> (with_reducible rfl)
                    simp only [Act.put, List.setIfInBounds_toArray, List.set_cons_zero, List.set_cons_succ]
                    refine walkX_take (o := _) (v := ?_) (by rw [HOPS.out]; simp only [List.getElem?_toArray, List.getElem?_cons_succ, List.getElem?_cons_zero]; exact rfl) (Or.inl ⟨rfl, ?_⟩) ?_
                    rotate_left
                    · (intro w hSw; have hSx := HFA.out _ hSw; (try dsimp only at hSx); clear hSw; go_simp) <;> (with_reducible rfl)
                    simp only [Act.put, List.setIfInBounds_toArray, List.set_cons_zero, List.set_cons_succ]
                    refine walkX_take (o := _) (v := ?_) (by rw [HOPS.out]; simp only [List.getElem?_toArray, List.getElem?_cons_succ, List.getElem?_cons_zero]; exact rfl) (Or.inl ⟨rfl, ?_⟩) ?_
                    rotate_left
                    · (intro w hSw; have hSx := HFA.out _ hSw; (try dsimp only at hSx); clear hSw; go_simp) <;> (with_reducible rfl)
                    simp only [Act.put, List.setIfInBounds_toArray, List.set_cons_zero, List.set_cons_succ]
                    refine walkX_take (o := _) (v := ?_) (by rw [HOPS.out]; simp only [List.getElem?_toArray, List.getElem?_cons_succ, List.getElem?_cons_zero]; exact rfl) (Or.inl ⟨rfl, ?_⟩) ?_
                    rotate_left
                    · (intro w hSw; have hSx := HFA.out _ hSw; (try dsimp only at hSx); clear hSw; go_simp) <;> (with_reducible rfl)
                    simp only [Act.put, List.setIfInBounds_toArray, List.set_cons_zero, List.set_cons_succ]
                    refine walkX_take (o := _) (v := ?_) (by rw [HOPS.out]; simp only [List.getElem?_toArray, List.getElem?_cons_succ, List.getElem?_cons_zero]; exact rfl) (Or.inl ⟨rfl, ?_⟩) ?_
                    rotate_left
                    · (intro w hSw; have hSx := HFA.out _ hSw; (try dsimp only at hSx); clear hSw; go_simp) <;> (with_reducible rfl)
                    simp only [Act.put, List.setIfInBounds_toArray, List.set_cons_zero, List.set_cons_succ]
                    refine walkX_call (o := _) (by rw [HOPS.out]; simp only [List.getElem?_toArray, List.getElem?_cons_succ, List.getElem?_cons_zero]; exact rfl) (fun K HK => ?_)
                    refine step_append_fr2 rfl (.tmp 237) (.tmp 241) 22 rfl 5 (.int .u8 0) 1 HUU.out HIN.out rfl (Q + 4) (.slice ra O0.length rc) _ rfl (HOW.out.keep fd (by simp)) g z2 j _ rfl H5.out (HSV.out.keep fd (by simp)) HO1.out H3.out H4.out (Nat.le_trans hz8 fd.size) ?_
                    intro v9 w9 o9 f9 hb9
                    have f89 : Fr (Value.slice ra O0.length rc).ownBlock.toList w8 w9 := fdS.trans f9 (fun x hx => .inl hx) (fun x hx => .inl hx)
                    obtain ⟨va, vc, rfl, _⟩ := o9.form
                    obtain ⟨vn, hvn⟩ : ∃ n, (List.map (Value.int .u8) (bi O0) ++ List.map (Value.int .u8) (bi (d.take z2))).length = n := ⟨_, rfl⟩
                    rw [hvn] at o9 hb9 ⊢
                    refine HK.out (fun w' => Fr (Value.slice ra O0.length rc).ownBlock.toList w8 w') _ _ (fun _ h => h) (f89) ?_
                    clear HK K
                    try simp only [Act.put, List.setIfInBounds_toArray, List.set_cons_zero, List.set_cons_succ]
                    refine walkX_take (o := _) (v := ?_) (by rw [HOPS.out]; simp only [List.getElem?_toArray, List.getElem?_cons_succ, List.getElem?_cons_zero]; exact rfl) (Or.inl ⟨rfl, ?_⟩) ?_
                    rotate_left
                    · (intro w hSw; have hSx := HFA.out _ hSw; (try dsimp only at hSx); clear hSw; go_simp) <;> (with_reducible rfl)
                    simp only [Act.put, List.setIfInBounds_toArray, List.set_cons_zero, List.set_cons_succ]
                    refine walkX_tail ?_
                    refine walkTail_step (o := _) (by rw [HOPS.out]; simp only [List.getElem?_toArray, List.getElem?_cons_succ, List.getElem?_cons_zero]; exact rfl) (fun K HK => ?_)
                    have hb9' := hb8.out.keep f89 (fun x hx => .inr (hrb x hx).1)
                    have sc_ : w9.cell? ⟨Q + 2, 0, none⟩ = some (.slice ra O0.length rc) := cell_of hb9'.q2
                    have sf_ : w9.frozen? ⟨Q + 2, 0, none⟩ = false := free_of hb9'.q2
                    go_simp
                    clear sc_ sf_
                    refine HK.out _ _ ?_
                    clear HK K
                    try simp only [Act.put, List.setIfInBounds_toArray, List.set_cons_zero, List.set_cons_succ]
                    refine walkTail_done ?_
                    clear HOPS OPS
                    obtain ⟨M0, M1, hm9⟩ := (hm8.out.keep0 fd).push0 o9 f9 hb9
                    have hwQ : w.heap.size ≤ Q := by have := HM7.out.lo; omega
                    have g9 := g8.out.trans f89 (U := []) (by simp) (fun x hx => .inr (by have := (hrb x hx).1; omega))
                    have f10 : Fr [Q + 2] w9 (w9.setCell ⟨Q + 2, 0, none⟩ (.slice va vn vc)) := (Fr.refl _ _).setCell (.inl (by simp)) _
                    have H10 := Lib.hid (And.intro (hm9.box (k := 2) (i := 0) (by omega) (.slice va vn vc)) (And.intro (hb9'.set20 (.slice va vn vc)) (g9.trans f10 (U := []) (by simp) (fun x hx => .inr (by simp at hx; omega)))))
                    clear hm9 g9 f10 o9 hb9 f9 f89 fd fdS hrb hb9' HFA HSV HOW
                    go_wp2_with fail
                    go_roundw
                    case rel => exact ⟨n + 1, wroteS1 s z2 0, M0, M1, _, u1, O0 ++ d.take z2, O1, a0, a1, s0, s1, by omega, by go_num, Lib.hid H10.out.1, Lib.hid H10.out.2.1, Lib.hid HRN.out, Lib.hid H10.out.2.2⟩
                    case measure => simp [intOf]; omega
                · as_aux_lemma =>
                    injection hx with hx1 hx2 hx3 hx4 hx5
                    subst hx1 hx4
                    have hsd : sd = 0 := by rw [hx2]; rfl
                    subst hsd
                    have HCC := Lib.hid fun w' (f : Fr [] w7 w') => close_sp1 (HM7.out.sp.keep0 f) (by have := HRD.out; omega) rfl rfl
                    rw [HX.out] at HCC
                    have hce : closeE ⟨3, 0, m, [], ex⟩ = 0 := rfl
                    rw [hce] at HCC
                    have hcc : (closeS1 s).c1 = true := by
                      unfold closeS1 note1
                      dsimp only
                      rw [HX.out]
                      simp
                    have HRN := Lib.hid (HR.out.turn1 (s' := closeS1 s) hni rfl rfl (.inl rfl) HM7.out.sp.h1.ok (fun m g => by have g2 := g; rw [hc] at g2; rw [hcc]; exact g2.close hr hts))
                    obtain ⟨x0, x1, rfl, _⟩ := Ow.formC HM7.out.r0
                    have hlo := HM7.out.lo
                    have hbl : ∀ x ∈ [b, W, b0, b1], w.heap.size ≤ x ∧ x < Q := by intro x hx; simp at hx; omega
                    have hKBQ : Q + 4 ≤ KB := by omega
                    have HFA := Lib.hid fun (w' : World) (f : Fr [b, W, b0, b1] w7 w') => (show w'.cell? ⟨KB, 1, none⟩ = some (.int .i64 0) ∧ w'.cell? ⟨Q + 2, 0, none⟩ = some (.slice x0 O0.length x1) ∧ w'.cell? ⟨Q, 1, none⟩ = some (.slice ya Y.length yc) from ⟨cell_of (f.keep HW7.out (fun hm => by have := (hbl _ hm).2; omega)), cell_of (f.keep HB7.out.q2 (fun hm => by have := (hbl _ hm).2; omega)), cell_of (f.keep HB7.out.q0 (fun hm => by have := (hbl _ hm).2; omega))⟩)
                    have hne : ((O0.length : Int) != (Y.length : Int)) = false := by rw [hO]; simp
                    have hsl : s0 ≤ 1 := by have h := HR.out.r1; obtain ⟨_, g, _⟩ := h; have := g.sh; split at this <;> omega
                    have HEC := Lib.hid (Go.Proofs.enters_of Try.func35 (by kernel_rfl) rfl)
                    have HBL := Lib.hid hbl
                    have hnel : ¬ (O0.length ≠ Y.length) := by rw [hO]; simp
                    clear hlo hbl hc ha hr hts hx2 hx3 hx5 hcc
                    have hwo : IntKind.i64.wrap 0 = 0 := by decide
                    obtain ⟨w0_, w1_, w2_, w3_, w4_⟩ := WBcells5 HW7.out
                    go_wp2_with fail
                    have fd : Fr [] w7 w7.drew := (Fr.refl _ _).drew
                    have fdS : Fr [b, W, b0, b1] w7 w7.drew := fd.trans (Fr.refl _ _ : Fr [b, W, b0, b1] _ _) (by simp) (fun x hx => .inl hx)
                    refine wp_region_order [(0, true), (1, true), (2, true), (3, true), (4, true), (5, true), (6, true), (7, true), (8, true), (9, true), (10, true), (11, true), (12, true), (13, true), (14, true), (15, true), (16, true), (17, true), (18, true), (19, true), (20, false), (21, true), (22, true)] (fun w' => Fr [b, W, b0, b1] w7 w') (by kernel_rfl) (by kernel_rfl) fdS ?_
                    intro OPS HOPS
                    have hops := HOPS.out
                    try simp only [List.append_eq, List.cons_append, List.nil_append] at hops
                    replace HOPS := Lib.hid hops
                    clear hops
                    refine walkO_take (o := _) (v := ?_) (by rw [HOPS.out]; simp only [List.getElem?_toArray, List.getElem?_cons_succ, List.getElem?_cons_zero]; exact rfl) (Or.inl ⟨rfl, ?_⟩) ?_
                    rotate_left
                    · (intro w hSw; have hSx := HFA.out _ hSw; (try dsimp only at hSx); clear hSw; go_simp) <;> (with_reducible rfl)
                    simp only [Act.put, List.setIfInBounds_toArray, List.set_cons_zero, List.set_cons_succ]
                    refine walkO_take (o := _) (v := ?_) (by rw [HOPS.out]; simp only [List.getElem?_toArray, List.getElem?_cons_succ, List.getElem?_cons_zero]; exact rfl) (Or.inl ⟨rfl, ?_⟩) ?_
                    rotate_left
                    · (intro w hSw; have hSx := HFA.out _ hSw; (try dsimp only at hSx); clear hSw; go_simp) <;> (with_reducible rfl)
                    simp only [Act.put, List.setIfInBounds_toArray, List.set_cons_zero, List.set_cons_succ]
                    refine walkO_take (o := _) (v := ?_) (by rw [HOPS.out]; simp only [List.getElem?_toArray, List.getElem?_cons_succ, List.getElem?_cons_zero]; exact rfl) (Or.inl ⟨rfl, ?_⟩) ?_
                    rotate_left
                    · (intro w hSw; have hSx := HFA.out _ hSw; (try dsimp only at hSx); clear hSw; go_simp) <;> (with_reducible rfl)
                    simp only [Act.put, List.setIfInBounds_toArray, List.set_cons_zero, List.set_cons_succ]
                    refine walkO_take (o := _) (v := ?_) (by rw [HOPS.out]; simp only [List.getElem?_toArray, List.getElem?_cons_succ, List.getElem?_cons_zero]; exact rfl) (Or.inl ⟨rfl, ?_⟩) ?_
                    rotate_left
                    · (intro w hSw; have hSx := HFA.out _ hSw; (try dsimp only at hSx); clear hSw; go_simp) <;> (with_reducible rfl)
                    simp only [Act.put, List.setIfInBounds_toArray, List.set_cons_zero, List.set_cons_succ]
                    refine walkO_take (o := _) (v := ?_) (by rw [HOPS.out]; simp only [List.getElem?_toArray, List.getElem?_cons_succ, List.getElem?_cons_zero]; exact rfl) (Or.inl ⟨rfl, ?_⟩) ?_
                    rotate_left
                    · (intro w hSw; have hSx := HFA.out _ hSw; (try dsimp only at hSx); clear hSw; go_simp) <;> (with_reducible rfl)
                    simp only [Act.put, List.setIfInBounds_toArray, List.set_cons_zero, List.set_cons_succ]
                    refine walkO_take (o := _) (v := ?_) (by rw [HOPS.out]; simp only [List.getElem?_toArray, List.getElem?_cons_succ, List.getElem?_cons_zero]; exact rfl) (Or.inl ⟨rfl, ?_⟩) ?_
                    rotate_left
                    · (intro w hSw; have hSx := HFA.out _ hSw; (try dsimp only at hSx); clear hSw; go_simp) <;> (with_reducible rfl)
                    simp only [Act.put, List.setIfInBounds_toArray, List.set_cons_zero, List.set_cons_succ]
                    refine walkO_take (o := _) (v := ?_) (by rw [HOPS.out]; simp only [List.getElem?_toArray, List.getElem?_cons_succ, List.getElem?_cons_zero]; exact rfl) (Or.inl ⟨by rw [HOPS.out]; rfl, ?_⟩) ?_
                    rotate_left
                    · (intro w hSw; have hSx := HFA.out _ hSw; (try dsimp only at hSx); clear hSw; go_simp) <;> (with_reducible rfl)
                    simp only [Act.put, List.setIfInBounds_toArray, List.set_cons_zero, List.set_cons_succ]
                    refine walkO_take (o := _) (v := ?_) (by rw [HOPS.out]; simp only [List.getElem?_toArray, List.getElem?_cons_succ, List.getElem?_cons_zero]; exact rfl) (Or.inl ⟨by rw [HOPS.out]; rfl, ?_⟩) ?_
                    rotate_left
                    · (intro w hSw; have hSx := HFA.out _ hSw; (try dsimp only at hSx); clear hSw; go_simp) <;> (with_reducible rfl)
                    simp only [Act.put, List.setIfInBounds_toArray, List.set_cons_zero, List.set_cons_succ]
                    refine walkO_take (o := _) (v := ?_) (by rw [HOPS.out]; simp only [List.getElem?_toArray, List.getElem?_cons_succ, List.getElem?_cons_zero]; exact rfl) (Or.inl ⟨by rw [HOPS.out]; rfl, ?_⟩) ?_
                    rotate_left
                    · (intro w hSw; have hSx := HFA.out _ hSw; (try dsimp only at hSx); clear hSw; go_simp) <;> (with_reducible rfl)
                    simp only [Act.put, List.setIfInBounds_toArray, List.set_cons_zero, List.set_cons_succ]
                    refine walkO_take (o := _) (v := ?_) (by rw [HOPS.out]; simp only [List.getElem?_toArray, List.getElem?_cons_succ, List.getElem?_cons_zero]; exact rfl) (Or.inl ⟨by rw [HOPS.out]; rfl, ?_⟩) ?_
                    rotate_left
                    · (intro w hSw; have hSx := HFA.out _ hSw; (try dsimp only at hSx); clear hSw; go_simp) <;> (with_reducible rfl)
                    simp only [Act.put, List.setIfInBounds_toArray, List.set_cons_zero, List.set_cons_succ]
                    refine walkO_take (o := _) (v := ?_) (by rw [HOPS.out]; simp only [List.getElem?_toArray, List.getElem?_cons_succ, List.getElem?_cons_zero]; exact rfl) (Or.inl ⟨by rw [HOPS.out]; rfl, ?_⟩) ?_
                    rotate_left
                    · (intro w hSw; have hSx := HFA.out _ hSw; (try dsimp only at hSx); clear hSw; go_simp) <;> (with_reducible rfl)
                    simp only [Act.put, List.setIfInBounds_toArray, List.set_cons_zero, List.set_cons_succ]
                    refine walkO_take (o := _) (v := ?_) (by rw [HOPS.out]; simp only [List.getElem?_toArray, List.getElem?_cons_succ, List.getElem?_cons_zero]; exact rfl) (Or.inl ⟨by rw [HOPS.out]; rfl, ?_⟩) ?_
                    rotate_left
                    · (intro w hSw; have hSx := HFA.out _ hSw; (try dsimp only at hSx); clear hSw; go_simp) <;> (with_reducible rfl)
                    simp only [Act.put, List.setIfInBounds_toArray, List.set_cons_zero, List.set_cons_succ]
                    refine walkO_take (o := _) (v := ?_) (by rw [HOPS.out]; simp only [List.getElem?_toArray, List.getElem?_cons_succ, List.getElem?_cons_zero]; exact rfl) (Or.inl ⟨by rw [HOPS.out]; rfl, ?_⟩) ?_
                    rotate_left
                    · (intro w hSw; have hSx := HFA.out _ hSw; (try dsimp only at hSx); clear hSw; go_simp) <;> (with_reducible rfl)
                    simp only [Act.put, List.setIfInBounds_toArray, List.set_cons_zero, List.set_cons_succ]
                    refine walkO_take (o := _) (v := ?_) (by rw [HOPS.out]; simp only [List.getElem?_toArray, List.getElem?_cons_succ, List.getElem?_cons_zero]; exact rfl) (Or.inl ⟨by rw [HOPS.out]; rfl, ?_⟩) ?_
                    rotate_left
                    · (intro w hSw; have hSx := HFA.out _ hSw; (try dsimp only at hSx); clear hSw; go_simp) <;> (with_reducible rfl)
                    simp only [Act.put, List.setIfInBounds_toArray, List.set_cons_zero, List.set_cons_succ]
                    refine walkO_take (o := _) (v := ?_) (by rw [HOPS.out]; simp only [List.getElem?_toArray, List.getElem?_cons_succ, List.getElem?_cons_zero]; exact rfl) (Or.inl ⟨by rw [HOPS.out]; rfl, ?_⟩) ?_
                    rotate_left
                    · (intro w hSw; have hSx := HFA.out _ hSw; (try dsimp only at hSx); clear hSw; go_simp) <;> (with_reducible rfl)
                    simp only [Act.put, List.setIfInBounds_toArray, List.set_cons_zero, List.set_cons_succ]
                    refine walkO_take (o := _) (v := ?_) (by rw [HOPS.out]; simp only [List.getElem?_toArray, List.getElem?_cons_succ, List.getElem?_cons_zero]; exact rfl) (Or.inl ⟨by rw [HOPS.out]; rfl, ?_⟩) ?_
                    rotate_left
                    · (intro w hSw; have hSx := HFA.out _ hSw; (try dsimp only at hSx); clear hSw; go_simp) <;> (with_reducible rfl)
                    simp only [Act.put, List.setIfInBounds_toArray, List.set_cons_zero, List.set_cons_succ]
                    refine walkO_take (o := _) (v := ?_) (by rw [HOPS.out]; simp only [List.getElem?_toArray, List.getElem?_cons_succ, List.getElem?_cons_zero]; exact rfl) (Or.inl ⟨rfl, ?_⟩) ?_
                    rotate_left
                    · (intro w hSw; have hSx := HFA.out _ hSw; (try dsimp only at hSx); clear hSw; go_simp) <;> (with_reducible rfl)
                    simp only [Act.put, List.setIfInBounds_toArray, List.set_cons_zero, List.set_cons_succ]
                    refine walkO_take (o := _) (v := ?_) (by rw [HOPS.out]; simp only [List.getElem?_toArray, List.getElem?_cons_succ, List.getElem?_cons_zero]; exact rfl) (Or.inl ⟨rfl, ?_⟩) ?_
                    rotate_left
                    · (intro w hSw; have hSx := HFA.out _ hSw; (try dsimp only at hSx); clear hSw; go_simp) <;> (with_reducible rfl)
                    simp only [Act.put, List.setIfInBounds_toArray, List.set_cons_zero, List.set_cons_succ]
                    refine walkO_take (o := _) (v := ?_) (by rw [HOPS.out]; simp only [List.getElem?_toArray, List.getElem?_cons_succ, List.getElem?_cons_zero]; exact rfl) (Or.inl ⟨by rw [HOPS.out]; rfl, ?_⟩) ?_
                    rotate_left
                    · (intro w hSw; have hSx := HFA.out _ hSw; (try dsimp only at hSx); clear hSw; go_simp) <;> (with_reducible rfl)
                    simp only [Act.put, List.setIfInBounds_toArray, List.set_cons_zero, List.set_cons_succ]
                    refine walkO_take (o := _) (v := ?_) (by rw [HOPS.out]; simp only [List.getElem?_toArray, List.getElem?_cons_succ, List.getElem?_cons_zero]; exact rfl) (Or.inl ⟨by rw [HOPS.out]; rfl, ?_⟩) ?_
                    rotate_left
                    · (intro w hSw; have hSx := HFA.out _ hSw; (try dsimp only at hSx); clear hSw; go_simp) <;> (with_reducible rfl)
                    simp only [Act.put, List.setIfInBounds_toArray, List.set_cons_zero, List.set_cons_succ]
                    refine walkO_call (o := _) (by rw [HOPS.out]; simp only [List.getElem?_toArray, List.getElem?_cons_succ, List.getElem?_cons_zero]; exact rfl) (fun K HK => ?_)
                    refine step_call (by rw [HOPS.out]; rfl) 35 #[(.tmp 264), (.tmp 265)] #[68, 3] rfl HEC.out #[.pointer (some ⟨b, 0, none⟩), .int .i64 1] (by simp [Act.eval]) (HCC.out _ fd) ?_
                    rintro e w8 ⟨rfl, f8', hS8⟩
                    have f8 : Fr [b, W, b0, b1] w7 w8 := fdS.trans f8' (fun x hx => .inl hx) (fun x hx => .inl hx)
                    refine ⟨_, rfl, ?_⟩
                    refine HK.out (fun w' => Fr [b, W, b0, b1] w7 w') _ _ (fun _ h => h) (f8) ?_
                    clear HK K
                    simp only [Act.put, List.setIfInBounds_toArray, List.set_cons_zero, List.set_cons_succ]
                    refine walkO_take (o := _) (v := ?_) (by rw [HOPS.out]; simp only [List.getElem?_toArray, List.getElem?_cons_succ, List.getElem?_cons_zero]; exact rfl) (Or.inl ⟨by rw [HOPS.out]; rfl, ?_⟩) ?_
                    rotate_left
                    · (intro w hSw; have hSx := HFA.out _ hSw; (try dsimp only at hSx); clear hSw; go_simp) <;> (with_reducible rfl)
                    simp only [Act.put, List.setIfInBounds_toArray, List.set_cons_zero, List.set_cons_succ]
                    refine walkO_take (o := _) (v := ?_) (by rw [HOPS.out]; simp only [List.getElem?_toArray, List.getElem?_cons_succ, List.getElem?_cons_zero]; exact rfl) (Or.inl ⟨rfl, ?_⟩) ?_
                    rotate_left
                    · (intro w hSw; have hSx := HFA.out _ hSw; (try dsimp only at hSx); clear hSw; go_simp) <;> (with_reducible rfl)
                    simp only [Act.put, List.setIfInBounds_toArray, List.set_cons_zero, List.set_cons_succ]
                    refine walkO_done ?_
                    clear HOPS OPS
                    have hm8 := HM7.out.call f8 hS8
                    have hb8 := HB7.out.keep f8 (fun x hx => .inl (HBL.out x hx).2)
                    have g8 := HG7.out.trans f8 (U := []) (by simp) (fun x hx => .inr (HBL.out x hx).1)
                    obtain ⟨_, _, _, _, _, _, c30, c31⟩ := hb8.cells
                    obtain ⟨_, _, _, y3⟩ := hb8.free 0
                    have hb9 := hb8.set30 (s0 + 1)
                    have hm9 := hm8.box (k := 3) (i := 0) (by omega) (.int .i64 ((s0 + 1 : Nat) : Int))
                    have f9 : Fr [Q + 3] w8 (w8.setCell ⟨Q + 3, 0, none⟩ (.int .i64 ((s0 + 1 : Nat) : Int))) := (Fr.refl _ _).setCell (.inl (by simp)) _
                    have hwQ : w.heap.size ≤ Q := by have := HM7.out.lo; omega
                    have H9 := Lib.hid (And.intro hm9 (And.intro hb9 (g8.trans f9 (U := []) (by simp) (fun x hx => .inr (by simp at hx; omega)))))
                    have hws : IntKind.i64.wrap ((s0 : Int) + 1) = ((s0 + 1 : Nat) : Int) := by rw [IntWalk.i64_in _ (by omega)]; rfl
                    clear hm8 hb8 g8 hb9 hm9 f9 f8 f8' fd fdS hS8 HFA HCC HEC w0_ w1_ w2_ w3_ w4_
                    go_wp2_with fail
                    go_roundw
                    case rel => exact ⟨n + 1, closeS1 s, N0, N1, _, u1, O0, O1, a0, a1, s0 + 1, s1, by omega, by go_num, Lib.hid H9.out.1, Lib.hid H9.out.2.1, Lib.hid HRN.out, Lib.hid H9.out.2.2⟩
                    case measure => simp [intOf]; omega
                · as_aux_lemma =>
                    injection hx with hx1 hx2 hx3 hx4 hx5
                    subst hx1 hx4
                    obtain ⟨w0_, w1_, w2_, w3_, w4_⟩ := WBcells5 HW7.out
                    have HRN := Lib.hid (HR.out.turn1 hni rfl rfl (.inr rfl) HM7.out.sp.h1.ok (fun m g => by have g2 := g; rw [hc] at g2 ⊢; exact g2.skip))
                    clear hc hO hsh hx2 hx3 hx5
                    go_wp2_with fail
                    go_roundw
                    case rel => exact ⟨n + 1, s, N0, N1, u0, u1, O0, O1, a0, a1, s0, s1, by omega, by go_num, Lib.hid HM7.out, Lib.hid HB7.out, Lib.hid HRN.out, Lib.hid HG7.out⟩
                    case measure => simp [intOf]; omega
end Go.Proofs.Ytodpkdbcdbdjfaa
