/-
  Law 5: parts, what a rope's parts are, and that Parts, Len and Bytes agree.
-/
import Derived.Test.YtpkgjgfdobcboaaMade05
import Derived.Deep.DeepCutAuto
import Derived.Deep.RegionHeld3
namespace Go.Proofs.Ytpkgjgfdobcboaa
open Go.RowKit Go.Shelf
set_option maxRecDepth 100000
attribute [local go_sem] Oper.semAt_some

theorem wpListIn_append_fr {F : Fence} {n : Nat} {P : Program} (w : World) {ops : Array Oper} {rest : List Oper} {o : Oper} {a : Act} {Q : Exit → Act → World → Prop} (hgd : o.guard = none) (s x : Operand) (t : TypeId)
    (ho : o.op = .call { callee := .builtin .append, args := #[s, x], argTypes := #[t, t] })
    (e : TypeId) (z : Value) (bytes : Nat) (ht : P.underlying t = some (.slice e)) (hinfo : (P.info? e).map (fun i => (i.zero, i.size, i.bytes)) = some (some z, 1, bytes)) (hz1 : z.cells = #[z])
    (M : Nat) (v : Value) (xs : List Value) (hs : a.eval s = v) (hown : Ow w M e v xs) (A : Option Addr) (m c : Nat) (ys : List Value) (hx : a.eval x = .slice A m c) (hm : ys.length = m) (hr : SlV w A ys) (h1 : ∀ u ∈ ys, u.oneCell' = true)
    (h63 : xs.length + m ≤ maxLen) (hb : (xs.length + m) * bytes ≤ 140737488355328) (hM : M ≤ w.heap.size)
    (h : ∀ v' w', Hid (Ow w' M e v' (xs ++ ys)) → Fr v.ownBlock.toList w w' → (v'.ownBlock = v.ownBlock ∨ v'.ownBlock = some w.heap.size) → wpListIn F n P ops Q rest (a.put o.dst v') w') : wpListIn F n P ops Q (o :: rest) a w := by
  obtain ⟨v', w', hrun, h2, h3, h4⟩ := run_append_fr (P := P) w t o.type e z bytes ht hinfo hz1 M v xs hown A m c ys hm hr h1 h63 hb hM
  refine wpListIn_plain hgd fun K hK' => ?_
  unfold Oper.wpIn
  refine ⟨?_, ?_⟩
  · simp [Oper.about, ho, resolve, Target.leads, Sem.run_pure]
  · rw [Oper.semAt_plain F _ _ (by rw [ho]; intro c hc'; cases hc')]
    simp [execOp, ho, resolve, invoke, builtin, hs, hx, hrun, Result.andThen]
    exact hK' _ _ (h v' w' h2 h3 h4)
theorem Ow.isCells {w : World} {M : Nat} {e : TypeId} {v : Value} {xs : List Value} (h : Ow w M e v xs) {k : Nat} (hk : v.ownBlock = some k) : ∃ c t f, w.heap[k]? = some (.cells c t f) := by
  rcases h.2 with ⟨rfl, _⟩ | ⟨g, cap, cur, rfl, _, hh, _⟩
  · cases hk
  · simp only [Value.ownBlock, Option.some.injEq] at hk
    subst hk
    exact ⟨_, _, _, hh⟩
theorem Ow.formSl5 {w : World} {M : Nat} {e : TypeId} {a : Option Addr} {n cap : Nat} {g : List UInt8} (h : Ow w M e (.slice a n cap) ((bi g).map (Value.int .u8))) : Sl w a (bi g) := by
  obtain ⟨a', c', e, _, _, hs, _⟩ := h.formB
  injection e with e1
  subst e1
  exact hs
/-- A block that holds no cells is none of those that hold some. -/
theorem not_r {w : World} {r k : Nat} {c : Array Value} {t : TypeId} {f : Nat × Nat} (hr : ∀ c t f, w.heap[r]? ≠ some (.cells c t f)) (hk : w.heap[k]? = some (.cells c t f)) : k ∉ [r] := by
  intro hm
  rw [List.mem_singleton] at hm
  subst hm
  exact hr _ _ _ hk

/-- What holds between two rounds. -/
structure PI5 (w : World) (B n0 : Nat) (a : Option Addr) (cap : Nat) (P : Parts) (pre : List (Value × List UInt8)) (W : World) : Prop where
  m : pre.map (·.2) = P.take pre.length
  out : ∃ u, W.heap[B + 2]? = some (.cells #[u] 69 (0, 0)) ∧ Ow W n0 9 u (sv (pre.map (·.2)))
  b0 : W.heap[B]? = some (.cells #[.slice a P.length cap, .int .i64 (tot P)] 65 (0, 0))
  b1 : W.heap[B + 1]? = some (.cells #[.slice none 0 0] 69 (0, 0))
  fr : Fr [] w W
  sz : n0 ≤ W.heap.size
theorem PI5.own {w : World} {B n0 : Nat} {a : Option Addr} {cap : Nat} {P : Parts} (hB : w.heap.size ≤ n0) : OwnFrom n0 (PI5 w B n0 a cap P) := by
  intro pre A A' row h hg hr
  have hf : Fr row.toList A A' := ⟨hg.os, hg.tape, hg.output, hg.size, fun k hk hn => hg.block k hk (fun e => hn (by rw [← e]; simp))⟩
  have hc : ∀ (k : Nat) (c : Array Value) (t : TypeId) (f : Nat × Nat), A.heap[k]? = some (.cells c t f) → k ∉ row.toList := fun k c t f hk hm => by
    obtain ⟨_, o, ho, hn⟩ := hr k (by simpa using hm)
    rw [hk] at ho
    injection ho with ho
    subst ho
    simp [Obj.isCells] at hn
  obtain ⟨u, hu, ou⟩ := h.out
  refine ⟨h.m, ⟨u, hf.keep hu (hc _ _ _ _ hu), ou.keep hf (fun k e => ?_)⟩, hf.keep h.b0 (hc _ _ _ _ h.b0), hf.keep h.b1 (hc _ _ _ _ h.b1), h.fr.trans hf (fun x hx => .inl hx) (fun x hx => .inr (Nat.le_trans hB (hr x (by simpa using hx)).1)), Nat.le_trans h.sz hg.size⟩
  obtain ⟨c, t, f, hk⟩ := ou.isCells e
  exact hc _ _ _ _ hk

theorem run_eql_func {P : Program} (w : World) (t : TypeId) {u1 u2 u3} (hu : P.underlying t = some (.func u1 u2 u3)) (fn : Fn) (c d : Array Value) : (binOp .eql t (.func fn c d) .nilFunc).run P w = .ok (.bool false) w := by
  have h : ∀ k : Nat, (Op.equalIn (k + 1) t (.func fn c d) .nilFunc).run P w = .ok false w := fun k => by
    simp [Op.equalIn, run_underlying hu]
  simp only [binOp]
  simp [Op.equal, Op.maxDepth, h 9999]
theorem rope_parts5 (a : Option Addr) (n cap : Nat) (t : Int) (w : World) :
    Calls Try.prog 48 #[.agg #[.slice a n cap, .int .i64 t]] w fun e w' => e = .returned (.func (.func 99) #[] #[.pointer (some ⟨w.heap.size, 0, none⟩)]) ∧ w' = w.alloc (.cells #[.slice a n cap, .int .i64 t] 65) := by
  have hmf : ∀ (fn : Fn) (first cap : Array Value) (w : World), (Instr.makeFunc fn first cap).run Try.prog w = .ok (.func fn first cap) w := fun _ _ _ _ => rfl
  go_enter Try.func48, Try.ntmps48
  go_wp2
  go_ret
  exact ⟨rfl, rfl⟩

set_option maxHeartbeats 8000000 in
theorem parts_ok {w : World} {N : Nat → Prop} {v : Value} {P : Parts} (h : Rp w N v P) :
    Calls Try.prog 45 #[v] w fun e w' => ∃ u, e = .returned (.tuple #[u, .bool true]) ∧ Fr [] w w' ∧ Rs w' (fun b => w.heap.size ≤ b) u P := by
  have HU : Hid (Try.prog.underlying 61 = some (.slice 9)) := Lib.hid Try.underlying61
  have HIN : Hid ((Try.prog.info? 9).map (fun i => (i.zero, i.size, i.bytes)) = some (some (.string ByteArray.empty), 1, 16)) := Lib.hid (by kernel_rfl)
  have HR := Lib.hid h.there
  obtain ⟨a, cap, rfl, _, _, _, _, hl1, hl2⟩ := h
  have hP1 : (P.length : Int) ≤ 1024 := by omega
  refine (callsIn_wide (n := 6)).1 ?_
  refine callsIn_of_wp_marks Try.func45 rfl trivial ?_ rfl
  refine wpIn_wide.2 ?_
  simp only [Try.ntmps45, List.size_toArray, List.length_cons, List.length_nil, Nat.reduceAdd, Nat.reduceSub, Array.replicate_succ, Array.replicate_zero, List.push_toArray, List.append_toArray, List.nil_append, List.cons_append]
  go_wp2_with fail
  obtain ⟨W, hW, f0, b0, b1, b2⟩ : ∃ W, W = (((w.alloc (.cells #[.slice a P.length cap, .int .i64 (tot P)] 65)).alloc (.cells #[.slice none 0 0] 69)).alloc (.cells #[.slice none 0 0] 69)) ∧ Fr [] w W ∧ W.heap[w.heap.size]? = some (.cells #[.slice a P.length cap, .int .i64 (tot P)] 65 (0, 0)) ∧ W.heap[w.heap.size + 1]? = some (.cells #[.slice none 0 0] 69 (0, 0)) ∧ W.heap[w.heap.size + 2]? = some (.cells #[.slice none 0 0] 69 (0, 0)) := ⟨_, rfl, (((Fr.refl _ _).alloc _).alloc _).alloc _, keepA (keepA (newA rfl)), keepA (newA (by simp)), newA (by simp)⟩
  have hlt := lt_of_heap b2
  rw [← hW]
  clear hW
  refine (rope_parts5 _ _ _ _ _).mono ?_
  rintro e w' ⟨rfl, rfl⟩
  have fL : Fr [] W (W.alloc (.cells #[.slice a P.length cap, .int .i64 (tot P)] 65)) := (Fr.refl _ _).alloc _
  have bL : (W.alloc (.cells #[.slice a P.length cap, .int .i64 (tot P)] 65)).heap[W.heap.size]? = some (.cells #[.slice a P.length cap, .int .i64 (tot P)] 65 (0, 0)) := newA rfl
  have zL : (W.alloc (.cells #[.slice a P.length cap, .int .i64 (tot P)] 65)).heap.size = W.heap.size + 1 := by simp
  have hfn := fun (w : World) (fn : Fn) (c d : Array Value) => run_eql_func (P := Try.prog) w 77 Try.underlying77 fn c d
  go_wp2_with fail
  generalize hwL : W.alloc (.cells #[.slice a P.length cap, .int .i64 (tot P)] 65) = wL at *
  have fw : Fr [] w wL := f0.then0 fL
  have p0 : PI5 w w.heap.size wL.heap.size a cap P [] wL := ⟨rfl, ⟨_, fL.keep b2 (by simp), Ow.nil _ _ _⟩, fL.keep b0 (by simp), fL.keep b1 (by simp), fw, Nat.le_refl _⟩
  have hrL := HR.out.keep fw (by simp)
  have HPH := parts_handsG hrL (S := [w.heap.size + 2]) (by intro x hx; simp at hx; subst hx; intro h; have := h.2; omega) bL (by simp; omega) 5 (by omega)
  have HEN := enters_of Try.func99 (by kernel_rfl) rfl
  generalize hBB : w.heap.size = B at *
  have hBw : w.heap.size ≤ B ∧ B ≤ w.heap.size := by omega
  have zL1 : W.heap.size < wL.heap.size := by omega
  clear hBB b0 b1 b2 f0 fL bL hwL hfn hrL fw zL
  refine (wpIn_wide (n := 6)).1 ?_
  refine range_gen (gf := 99) (lb := #[.pointer (some ⟨W.heap.size, 0, none⟩)]) (encs := fun x : Value × List UInt8 => #[x.1]) (Kp := FrK wL.heap.size [B + 2]) (Hd := PartHdG P) (S := fun xs => xs.map (·.2) = P) (Sp := fun xs => xs.map (·.2) = P.take xs.length ∧ xs.length ≤ P.length) (upd := fun a x => { tmps := (a.tmps.setIfInBounds 16 x.1).setIfInBounds 6 x.1, defers := [] }) rfl ?h1 ?hg trivial HEN HPH (fun h k => FrK.trans h k) (fun W l o o' hl _ _ => FrK.putObj hl W o') (fun pre x s W l o o' hl ho hx => ⟨hx.1, hx.2.putObj hl ho⟩) (fun _ => rfl)
    (PI5 w B wL.heap.size a cap P) (fun _ _ _ => False)
    ?own ?ownx ?start ?assign ?body ?done ?stop
  case h1 => omega
  case hg => rfl
  case own => exact PI5.own (by omega)
  case ownx => intro c s W W' row h; exact h.elim
  case start => exact p0
  case stop => intro D c xs W _ _ h; exact h.elim
  case assign =>
    intro l x W K hK
    gi_wp2
    simp only [List.setIfInBounds_toArray, List.set_cons_succ, List.set_cons_zero] at hK
    exact hK
  case body =>
    rintro l r pre ⟨xv, xl⟩ W0 W2 hI0 hr hrB hf ⟨hx1, hx2⟩
    dsimp only at hx1 hx2 ⊢
    simp only [List.setIfInBounds_toArray, List.set_cons_succ, List.set_cons_zero]
    have hs0 := hI0.sz
    obtain ⟨u, hu, ou⟩ := hI0.out
    have hu2 := hf.keep hu (not_r hr hu)
    have ou2 : Ow W2 wL.heap.size 9 u (sv (pre.map (·.2))) := ou.keep hf (fun k e => by obtain ⟨c, t, f, hk⟩ := ou.isCells e; exact not_r hr hk)
    have hul := ou.lt
    have q0 := hf.keep hI0.b0 (not_r hr hI0.b0)
    have q1 := hf.keep hI0.b1 (not_r hr hI0.b1)
    have frw : Fr [] w W2 := hI0.fr.trans hf (fun _ h => .inl h) (fun x hx => .inr (by simp at hx; subst hx; omega))
    have hxl := hx2.lt
    obtain ⟨ga, gc, rfl, hg1, hg2, hgs, _⟩ := hx2.formB
    have hplen : pre.length < P.length := (List.getElem?_eq_some_iff.1 hx1).1
    have hm1 : (pre ++ [(Value.slice ga xl.length gc, xl)]).map (·.2) = P.take (pre ++ [(Value.slice ga xl.length gc, xl)]).length := by
      rw [List.map_append, hI0.m, List.length_append, List.length_singleton, List.take_succ_eq_append_getElem hplen]
      have := (List.getElem?_eq_some_iff.1 hx1).2
      rw [this]
      rfl
    have hm2 : (pre ++ [(Value.slice ga xl.length gc, xl)]).map (·.2) = pre.map (·.2) ++ [xl] := by rw [List.map_append]; rfl
    have hml : (pre.map (·.2)).length ≤ 1024 := by rw [List.length_map]; omega
    have hz := hf.size
    obtain ⟨F, hF⟩ : ∃ F, pre.map (·.2) = F := ⟨_, rfl⟩
    rw [hF] at hm2 ou2 hml
    obtain ⟨ya, yc, rfl, _⟩ := id ou2.form
    have HM := Lib.hid (And.intro hm1 hm2)
    have hx2l : (xl.length : Int) ≤ 9223372036854775807 := by unfold maxLen at hg2; omega
    have k1 := conv_st (cap := gc) hgs rfl
    have H3 : Hid ((sv F).length + 1 ≤ maxLen) := Lib.hid (by rw [sv_len]; unfold maxLen; omega)
    have H4 : Hid (((sv F).length + 1) * 16 ≤ 140737488355328) := Lib.hid (by rw [sv_len]; omega)
    have HOW := Lib.hid (ou2.keep ((Fr.refl [] W2).alloc (.cells #[.string (st xl)] 9)) (by simp))
    have HWs : Hid (wL.heap.size ≤ (W2.alloc (.cells #[.string (st xl)] 9)).heap.size) := Lib.hid (by simp; omega)
    have c2 : W2.cell? ⟨B + 2, 0, none⟩ = some (.slice ya (sv F).length yc) := cell_of hu2
    have HX := Lib.hid hx2
    clear hm1 hm2 hF hgs hI0 hx1 ou hu hx2
    gi_wp2_with (refine wpListIn_append_fr _ rfl (.tmp 18) (.tmp 21) 61 rfl 9 (.string ByteArray.empty) 16 HU.out HIN.out rfl wL.heap.size _ _ (by exact rfl) HOW.out (some ⟨W2.heap.size, 0, none⟩) 1 1 [.string (st xl)] (by exact rfl) rfl (SlV.box _ _ _) (one_string _) H3.out H4.out HWs.out ?_)
    intro v3 w3 o3 f3 hb3
    have ow3 := o3.out
    rw [sv_snoc] at ow3
    have hnB : ∀ k, (Value.slice ya (sv F).length yc).ownBlock = some k → wL.heap.size ≤ k := fun k e => (HOW.out.lt k e).1
    have c3 := f3.keep (keepA (o := .cells #[.string (st xl)] 9) hu2) (fun hm => by have := hnB _ (by simpa using hm); omega)
    obtain ⟨za, zc, rfl, _⟩ := id ow3.form
    have hz3 := f3.size
    have x2 : w3.cell? ⟨B + 2, 0, none⟩ = some (.slice ya (sv F).length yc) := cell_of c3
    have x3 : w3.frozen? ⟨B + 2, 0, none⟩ = false := free_of c3
    have f4 : Fr [B + 2] w3 (w3.setCell ⟨B + 2, 0, none⟩ (.slice za (sv (F ++ [xl])).length zc)) := (Fr.refl _ _).setCell (.inl (by simp)) _
    have ov := ((HX.out.keep ((Fr.refl [] W2).alloc (.cells #[.string (st xl)] 9)) (by simp)).keep f3 (fun k e hm => by have := (hul k (by simpa using hm)).2; have := (hxl k e).1; omega)).keep f4 (fun k e hm => by have := (hxl k e).1; simp at hm; omega)
    have c4 := heap_setCell_eq (i := 0) (u := .slice za (sv (F ++ [xl])).length zc) c3
    have ow4 := ow3.keep f4 (fun k e hm => by have := (ow3.lt k e).1; simp at hm; omega)
    have hvl : ∀ k, (Value.slice za (sv (F ++ [xl])).length zc).ownBlock = some k → (Value.slice ga xl.length gc).ownBlock ≠ some k := by
      intro k e1 e2
      have h2 := hxl k e2
      rcases hb3 with h | h
      · rw [e1] at h; have := hul k h.symm; omega
      · rw [e1] at h; simp at h; omega
    have q04 : (w3.setCell ⟨B + 2, 0, none⟩ (.slice za (sv (F ++ [xl])).length zc)).heap[B]? = some (.cells #[.slice a P.length cap, .int .i64 (tot P)] 65 (0, 0)) := keepS (f3.keep (keepA q0) (fun hm => by have := hnB _ (by simpa using hm); omega)) (by dsimp only; omega)
    have q14 : (w3.setCell ⟨B + 2, 0, none⟩ (.slice za (sv (F ++ [xl])).length zc)).heap[B + 1]? = some (.cells #[.slice none 0 0] 69 (0, 0)) := keepS (f3.keep (keepA q1) (fun hm => by have := hnB _ (by simpa using hm); omega)) (by dsimp only; omega)
    have fA : Fr ((B + 2) :: (Value.slice ya (sv F).length yc).ownBlock.toList) W2 (w3.setCell ⟨B + 2, 0, none⟩ (.slice za (sv (F ++ [xl])).length zc)) :=
      (((Fr.refl [] W2).alloc (.cells #[.string (st xl)] 9)).trans f3 (by simp) (fun x hx => .inl (List.mem_cons_of_mem _ hx))).trans f4 (fun _ h => .inl h) (fun x hx => .inl (by simp at hx; simp [hx]))
    have hcells : ∀ x ∈ ((B + 2) :: ((Value.slice ya (sv F).length yc).ownBlock.toList ++ (Value.ownBlock (.slice ga xl.length gc)).toList)), ∀ o, W2.heap[x]? = some o → o.isCells = true := by
      intro x hx o ho
      simp only [List.mem_cons, List.mem_append] at hx
      have hany : ∃ c t f, W2.heap[x]? = some (.cells c t f) := by
        rcases hx with rfl | hx | hx
        · exact ⟨_, _, _, hu2⟩
        · exact ou2.isCells (by simpa using hx)
        · exact HX.out.isCells (by simpa using hx)
      obtain ⟨c, t, f, h⟩ := hany
      rw [h] at ho
      injection ho with ho
      subst ho
      rfl
    have HCL := Lib.hid hcells
    clear hcells
    have HALL := Lib.hid (And.intro ow4 (And.intro c4 (And.intro q04 (And.intro q14 (And.intro fA (And.intro hvl (And.intro hnB frw)))))))
    clear ow3 o3 f3 hb3 c3 c4 ow4 q04 q14 fA hvl hnB frw HOW q0 q1 k1 hu2 f4 c2
    gi_wp2
    generalize hw4 : w3.setCell ⟨B + 2, 0, none⟩ (.slice za (sv (F ++ [xl])).length zc) = w4 at *
    clear hw4 x2 x3
    gi_loopw [7, 26] (fun _ j wx => ∃ (q : Nat) (xs : List Int), q ≤ xl.length ∧ j = .int .i64 q ∧ xs.length = xl.length ∧ Ow wx W0.heap.size 5 (.slice ga xl.length gc) (xs.map (Value.int .u8)) ∧ Fr (Value.ownBlock (.slice ga xl.length gc)).toList w4 wx) (fun _ j _ => xl.length - (intOf j).toNat)
    case atStart => exact ⟨0, bi xl, by omega, rfl, bi_length _, ov, Fr.refl _ _⟩
    case round =>
      obtain ⟨q, xs, hq, rfl, hxsl, hox, fr⟩ := hrel
      by_cases hlq : (q : Int) < xl.length
      · obtain ⟨g, cap', hve, _, _, _, hgl, hcell, hfree⟩ := hox.row (by rw [List.length_map]; omega)
        have hkx : q < xs.length := by omega
        have hc := hcell q (by rw [List.length_map]; omega)
        rw [List.getElem?_map, List.getElem?_eq_getElem hkx] at hc
        have hf := hfree q
        simp only [Value.slice.injEq] at hve
        obtain ⟨rfl, hve2, rfl⟩ := hve
        clear hve2
        have hset := hox.set q (.int .u8 (IntKind.u8.wrap (xs[q] + 1)))
        rw [← List.map_set] at hset
        have hfr2 := fr.setCell (p := ⟨g, q, none⟩) (.inl (by show g ∈ [g]; simp)) (.int .u8 (IntKind.u8.wrap (xs[q] + 1)))
        simp only [Option.map_some] at hc
        generalize xs[q] = x at hc hset hfr2
        have HXL := Lib.hid hxsl
        have HST := Lib.hid (And.intro hset hfr2)
        clear hcell hfree hox fr hset hfr2 ov hxsl hkx
        gi_wp2
        go_roundw
        case rel => exact ⟨q + 1, _, by omega, by go_num, by rw [List.length_set]; exact HXL.out, HST.out.1, HST.out.2⟩
        case measure => simp [intOf]; omega
      · gi_wp2
        obtain ⟨ow4, c4, q04, q14, fA, hvl, hnB, frw⟩ := HALL.out
        have hnx : ∀ k, k < W0.heap.size → k ∉ (Value.ownBlock (.slice ga xl.length gc)).toList := fun k hk hm => by have := (hxl k (by simpa using hm)).1; omega
        have fT : Fr ((B + 2) :: ((Value.slice ya (sv F).length yc).ownBlock.toList ++ (Value.ownBlock (.slice ga xl.length gc)).toList)) W2 wr :=
          fA.trans fr (fun x hx => .inl (by simp only [List.mem_cons, List.mem_append] at hx ⊢; rcases hx with h | h; exact .inl h; exact .inr (.inl h))) (fun x hx => .inl (by simp only [List.mem_cons, List.mem_append]; exact .inr (.inr hx)))
        have hxn : ∀ k, k ∈ (Value.ownBlock (.slice ga xl.length gc)).toList → wL.heap.size ≤ k := fun k hm => by have := (hxl k (by simpa using hm)).1; omega
        have hyn : ∀ k, k ∈ (Value.slice ya (sv F).length yc).ownBlock.toList → wL.heap.size ≤ k := fun k hm => hnB k (by simpa using hm)
        refine ⟨fT.keepsOthers HCL.out, ⟨fT.os, fT.tape, fT.output, fT.size, fun k hk hn => fT.block k (by omega) (fun hm => ?_)⟩, ?_⟩
        · simp only [List.mem_cons, List.mem_append] at hm hn
          rcases hm with h | h | h
          · exact hn (.inl h)
          · have := hyn k h; omega
          · have := hxn k h; omega
        · refine ⟨HM.out.1, ⟨_, by have := fr.keep c4 (hnx _ (by omega)); simpa using this, ?_⟩, fr.keep q04 (hnx _ (by omega)), fr.keep q14 (hnx _ (by omega)), frw.trans fT (fun _ h => .inl h) (fun x hx => .inr ?_), Nat.le_trans (by omega) fT.size⟩
          · rw [HM.out.2]
            exact ow4.keep fr (fun k e hm => hvl k e (by simpa using hm))
          · simp only [List.mem_cons, List.mem_append] at hx
            rcases hx with h | h | h
            · omega
            · have := hyn x h; omega
            · have := hxn x h; omega
  case done =>
    rintro D' xs W3 hD' hS hI hK
    obtain ⟨u, hu, ou⟩ := hI.out
    rw [hS] at ou
    have q0 := hI.b0
    have q1 := hI.b1
    have hs3 := hI.sz
    have fr3 := hI.fr
    have hr3 := HR.out.keep fr3 (by simp)
    obtain ⟨ua, uc, rfl, _⟩ := id ou.form
    have d0 : W3.cell? ⟨B, 0, none⟩ = some (.slice a P.length cap) := cell_of q0
    have d1 : W3.cell? ⟨B, 1, none⟩ = some (.int .i64 (tot P)) := cell_of q0
    have HBY := Lib.hid (rope_bytes hr3)
    obtain ⟨F, hF⟩ : ∃ F, P.flatten = F := ⟨_, rfl⟩
    rw [hF] at HBY
    have hFl : F.length = tot P := by rw [← hF]; rfl
    have HF := Lib.hid (And.intro hF hFl)
    have hFi : (F.length : Int) ≤ 65536 := by omega
    clear hF hFl hS hI hr3 p0 HPH HEN
    simp only [Exit.inBlock, Exit.then]
    go_wp2_with fail
    refine HBY.out.mono ?_
    rintro e w4 ⟨bv, rfl, f4, ob⟩
    have e0 := f4.keep q0 (by simp)
    have e1 := f4.keep q1 (by simp)
    have e2 := f4.keep hu (by simp)
    have ou4 := ou.keep f4 (by simp)
    have hK4 := f4.keep hK (by simp)
    have fr4 := fr3.then0 f4
    have hbl := ob.lt
    have hz4 := f4.size
    have hr4 := HR.out.keep fr4 (by simp)
    obtain ⟨ba, bc, rfl, hbc1, hbc2, hbs, _⟩ := ob.formB
    have hrs := Rs.of_own ou4
    have hul := fun k e => (ou.lt k e).2
    have hDlt : D' < W3.heap.size := lt_of_heap hK
    clear d0 d1 q0 q1 hu ou hK fr3 f4 HBY
    have HTX := Lib.hid fun (w' : World) (f : Fr [] w4 w') => (show Calls Try.prog 52 #[.agg #[.slice ua (sv P).length uc]] w' fun e w2 => e = .returned (.string (st F)) ∧ Fr [] w' w2 from by rw [← HF.out.1]; exact ref5_text (hrs.keep f (by simp)) (by omega) (by omega))
    have HLN := Lib.hid fun (w' : World) (f : Fr [] w4 w') => ref5_len (hrs.keep f (by simp)) (by omega) (by omega)
    have HRL := Lib.hid fun (w' : World) (f : Fr [] w4 w') => rope_len (hr4.keep f (by simp))
    have HS := Lib.hid fun (w' : World) (f : Fr [] w4 w') => (show w'.cell? ⟨B, 0, none⟩ = some (.slice a P.length cap) ∧ w'.cell? ⟨B, 1, none⟩ = some (.int .i64 (tot P)) ∧ w'.cell? ⟨B + 2, 0, none⟩ = some (.slice ua (sv P).length uc) ∧ (convert 29 9 (.slice ba F.length bc)).run Try.prog w' = .ok (.string (st F)) w' from ⟨cell_of (f.keep e0 (by simp)), cell_of (f.keep e0 (by simp)), cell_of (f.keep e2 (by simp)), conv_st (sl_keep hbs f (by simp)) rfl⟩)
    have hse : (st F == st F) = true := by rw [st_beq]; simp
    have hst : (st F != st F) = false := by unfold bne; rw [hse]; rfl
    obtain ⟨c0, c1, c2, c3⟩ := HS.out _ (Fr.refl _ _)
    go_wp2_with fail
    go_region_held3 (fun w' => w'.cell? ⟨B, 0, none⟩ = some (.slice a P.length cap) ∧ w'.cell? ⟨B, 1, none⟩ = some (.int .i64 (tot P)) ∧ w'.cell? ⟨B + 2, 0, none⟩ = some (.slice ua (sv P).length uc) ∧ (convert 29 9 (.slice ba F.length bc)).run Try.prog w' = .ok (.string (st F)) w')
      (first | (with_reducible exact ⟨t0, t1, t2, t3⟩) | (with_reducible exact ⟨c0, c1, c2, c3⟩) | (with_reducible refine HS.out _ ?_; repeat first | (with_reducible exact f7) | (with_reducible exact f6) | (with_reducible exact f5) | (with_reducible exact Fr.refl _ _) | (with_reducible refine Fr.drew ?_) | (with_reducible refine Fr.alloc ?_ _)))
      (first
        | (go_at_call 52; ((with_reducible refine (HTX.out _ ((Fr.refl _ _).drew)).mono ?_); rintro e w5 ⟨rfl, f5'⟩; have f5 : Fr [] w4 w5 := (Fr.refl [] w4).drew.then0 f5'; obtain ⟨t0, t1, t2, t3⟩ := HS.out _ f5))
        | (go_at_call 56; ((with_reducible refine (HRL.out _ f5).mono ?_); rintro e w6 ⟨rfl, f6'⟩; have f6 : Fr [] w4 w6 := f5.then0 f6'; obtain ⟨t0, t1, t2, t3⟩ := HS.out _ f6))
        | (go_at_call 98; ((with_reducible refine (HLN.out _ f6).mono ?_); rintro e w7 ⟨rfl, f7'⟩; have f7 : Fr [] w4 w7 := f6.then0 f7'; obtain ⟨t0, t1, t2, t3⟩ := HS.out _ f7)))
    have e0' := f7.keep e0 (by simp)
    have e1' := f7.keep e1 (by simp)
    have e2' := f7.keep e2 (by simp)
    have ov := ob.keep f7 (by simp)
    have hK7 := f7.keep hK4 (by simp)
    have fr7 := fr4.then0 f7
    have ou7 := ou4.keep f7 (by simp)
    have hz7 := f7.size
    clear c0 c1 c2 c3 t0 t1 t2 t3 HS HTX HLN HRL hr4 hrs f5 f5' f6 f6' f7 f7' e0 e1 e2 hK4 fr4 ou4 ob hbs
    go_wp2_with fail
    go_loopw [9, 53] (fun _ j wx => ∃ (q : Nat) (xs : List Int), q ≤ F.length ∧ j = .int .i64 q ∧ xs.length = F.length ∧ Ow wx W3.heap.size 5 (.slice ba F.length bc) (xs.map (Value.int .u8)) ∧ Fr (Value.ownBlock (.slice ba F.length bc)).toList w7 wx) (fun _ j _ => F.length - (intOf j).toNat)
    case atStart => exact ⟨0, bi F, by omega, rfl, bi_length _, ov, Fr.refl _ _⟩
    case round =>
      obtain ⟨q, xs, hq, rfl, hxsl, hox, fr⟩ := hrel
      by_cases hlq : (q : Int) < F.length
      · obtain ⟨g, cap', hve, _, _, _, hgl, hcell, hfree⟩ := hox.row (by rw [List.length_map]; omega)
        have hkx : q < xs.length := by omega
        have hc := hcell q (by rw [List.length_map]; omega)
        rw [List.getElem?_map, List.getElem?_eq_getElem hkx] at hc
        have hf := hfree q
        simp only [Value.slice.injEq] at hve
        obtain ⟨rfl, hve2, rfl⟩ := hve
        clear hve2
        have hset := hox.set q (.int .u8 (IntKind.u8.wrap (xs[q] + 1)))
        rw [← List.map_set] at hset
        have hfr2 := fr.setCell (p := ⟨g, q, none⟩) (.inl (by show g ∈ [g]; simp)) (.int .u8 (IntKind.u8.wrap (xs[q] + 1)))
        simp only [Option.map_some] at hc
        generalize xs[q] = x at hc hset hfr2
        have HXL := Lib.hid hxsl
        have HST := Lib.hid (And.intro hset hfr2)
        clear hcell hfree hox fr hset hfr2 ov hxsl hkx
        go_wp2_with fail
        go_roundw
        case rel => exact ⟨q + 1, _, by omega, by go_num, by rw [List.length_set]; exact HXL.out, HST.out.1, HST.out.2⟩
        case measure => simp [intOf]; omega
      · have hxn : ∀ k, k ∈ (Value.ownBlock (.slice ba F.length bc)).toList → W3.heap.size ≤ k ∧ k < w4.heap.size := fun k hm => hbl k (by simpa using hm)
        have hDl := lt_of_heap hK7
        have hDD := hD'
        have q0 := fr.keep e0' (fun hm => by have := hxn _ hm; omega)
        have q1 := fr.keep e1' (fun hm => by have := hxn _ hm; omega)
        have q2 := fr.keep e2' (fun hm => by have := hxn _ hm; omega)
        have hKq : wr.heap[D']? = some (.deferred (some [])) := fr.keep hK7 (fun hm => by have := hxn _ hm; have := hDlt; omega)
        have frq : Fr [] w wr := fr7.trans fr (by simp) (fun x hx => .inr (by have := hxn x hx; omega))
        have ouq : Ow wr wL.heap.size 9 (.slice ua (sv P).length uc) (sv P) := ou7.keep fr (fun k e hm => by have := hxn k hm; have := hul k e; omega)
        have hrq := HR.out.keep frq (by simp)
        have hrs := Rs.of_own ouq
        have HB2 := Lib.hid fun (w' : World) (f : Fr [] wr w') => (show Calls Try.prog 55 #[.agg #[.slice a P.length cap, .int .i64 (tot P)]] w' fun e w2 => ∃ u, e = .returned u ∧ Fr [] w' w2 ∧ Ow w2 w'.heap.size 5 u ((bi F).map (Value.int .u8)) from by rw [← HF.out.1]; exact rope_bytes (hrq.keep f (by simp)))
        have HTX := Lib.hid fun (w' : World) (f : Fr [] wr w') => (show Calls Try.prog 52 #[.agg #[.slice ua (sv P).length uc]] w' fun e w2 => e = .returned (.string (st F)) ∧ Fr [] w' w2 from by rw [← HF.out.1]; exact ref5_text (hrs.keep f (by simp)) (by omega) (by omega))
        have HS := Lib.hid fun (w' : World) (f : Fr [] wr w') => (show w'.cell? ⟨B, 0, none⟩ = some (.slice a P.length cap) ∧ w'.cell? ⟨B, 1, none⟩ = some (.int .i64 (tot P)) ∧ w'.cell? ⟨B + 2, 0, none⟩ = some (.slice ua (sv P).length uc) from ⟨cell_of (f.keep q0 (by simp)), cell_of (f.keep q0 (by simp)), cell_of (f.keep q2 (by simp))⟩)
        have hS0 := HS.out _ ((Fr.refl [] wr).drew)
        have HEB := Lib.hid (Go.Proofs.enters_of Try.func55 (by kernel_rfl) rfl)
        have HET := Lib.hid (Go.Proofs.enters_of Try.func52 (by kernel_rfl) rfl)
        clear e0' e1' e2' ov hK7 fr7 ou7 hrq hrs hxsl hox
        go_wp2_with fail
        refine wp_region_noPanic ?_
        refine wp_region_held_drew (S := fun w' => w'.cell? ⟨B, 0, none⟩ = some (.slice a P.length cap) ∧ w'.cell? ⟨B, 1, none⟩ = some (.int .i64 (tot P)) ∧ w'.cell? ⟨B + 2, 0, none⟩ = some (.slice ua (sv P).length uc)) (by kernel_rfl) hS0 (fun hHeld => ?_)
        refine wpAnyH_take (i := 0) (oi := _) (v := ?_) (by simp only [List.getElem?_toArray, List.getElem?_cons_succ, List.getElem?_cons_zero]; exact rfl) (by kernel_rfl) (by kernel_rfl) (by kernel_rfl) (by exact fun _ _ _ h => h) (Or.inl ⟨by rfl, ?_⟩) (by assumption) ?_
        rotate_left
        · (intro w hSw; (try dsimp only at hSw); go_simp) <;> (with_reducible rfl)
        try simp only [Act.put, List.setIfInBounds_toArray, List.set_cons_zero, List.set_cons_succ]
        refine wpAnyH_take (i := 1) (oi := _) (v := ?_) (by simp only [List.getElem?_toArray, List.getElem?_cons_succ, List.getElem?_cons_zero]; exact rfl) (by kernel_rfl) (by kernel_rfl) (by kernel_rfl) (by exact fun _ _ _ h => h) (Or.inl ⟨by rfl, ?_⟩) (by assumption) ?_
        rotate_left
        · (intro w hSw; (try dsimp only at hSw); go_simp) <;> (with_reducible rfl)
        try simp only [Act.put, List.setIfInBounds_toArray, List.set_cons_zero, List.set_cons_succ]
        refine wpAnyH_take (i := 4) (oi := _) (v := ?_) (by simp only [List.getElem?_toArray, List.getElem?_cons_succ, List.getElem?_cons_zero]; exact rfl) (by kernel_rfl) (by kernel_rfl) (by kernel_rfl) (by exact fun _ _ _ h => h) (Or.inl ⟨by rfl, ?_⟩) (by assumption) ?_
        rotate_left
        · (intro w hSw; (try dsimp only at hSw); go_simp) <;> (with_reducible rfl)
        try simp only [Act.put, List.setIfInBounds_toArray, List.set_cons_zero, List.set_cons_succ]
        refine wpAnyH_ready (rs := [2]) (by kernel_rfl) (by simp) ?_
        refine AllReadyH.cons (o := _) (by simp only [List.getElem?_toArray, List.getElem?_cons_succ, List.getElem?_cons_zero]; exact rfl) (fun K hK => ?_) AllReadyH.nil
        refine step_call (by simp [Region.wanted, yielded]) 55 #[.tmp 64] #[65] rfl HEB.out #[.agg #[.slice a P.length cap, .int .i64 (tot P)]] (by simp [Act.eval]) (HB2.out _ ((Fr.refl _ _).drew)) ?_
        rintro e w8 ⟨bv, rfl, f8', ob8⟩
        have f8 : Fr [] wr w8 := (Fr.refl [] wr).drew.then0 f8'
        obtain ⟨ca, cc, rfl, _, _, hcs, _⟩ := ob8.formB
        refine ⟨_, rfl, ?_⟩
        refine hK.out _ _ (HS.out _ f8) (fun hHeld => ?_)
        clear hK K
        try simp only [Act.put, List.setIfInBounds_toArray, List.set_cons_zero, List.set_cons_succ]
        refine wpAnyH_strengthen (S' := fun w' => (w'.cell? ⟨B, 0, none⟩ = some (.slice a P.length cap) ∧ w'.cell? ⟨B, 1, none⟩ = some (.int .i64 (tot P)) ∧ w'.cell? ⟨B + 2, 0, none⟩ = some (.slice ua (sv P).length uc)) ∧ (convert 29 9 (.slice ca F.length cc)).run Try.prog w' = .ok (.string (st F)) w') (fun _ h => h.1) _ _ _ _ ?_
        have hHeld1 := And.intro hHeld (conv_st (cap := cc) hcs rfl)
        refine wpAnyH_take (i := 3) (oi := _) (v := ?_) (by simp only [List.getElem?_toArray, List.getElem?_cons_succ, List.getElem?_cons_zero]; exact rfl) (by kernel_rfl) (by kernel_rfl) (by kernel_rfl) (by exact fun _ _ _ h => h) (Or.inl ⟨by rfl, ?_⟩) (by assumption) ?_
        rotate_left
        · (intro w hSw; (try dsimp only at hSw); go_simp) <;> (with_reducible rfl)
        try simp only [Act.put, List.setIfInBounds_toArray, List.set_cons_zero, List.set_cons_succ]
        refine wpAnyH_ready (rs := [5]) (by kernel_rfl) (by simp) ?_
        refine AllReadyH.cons (o := _) (by simp only [List.getElem?_toArray, List.getElem?_cons_succ, List.getElem?_cons_zero]; exact rfl) (fun K hK => ?_) AllReadyH.nil
        refine step_call (by simp [Region.wanted, yielded]) 52 #[.tmp 67] #[69] rfl HET.out #[.agg #[.slice ua (sv P).length uc]] (by simp [Act.eval]) (HTX.out _ f8) ?_
        rintro e w9 ⟨rfl, f9'⟩
        have f9 : Fr [] wr w9 := f8.then0 f9'
        refine ⟨_, rfl, ?_⟩
        have hHeld2 := And.intro (HS.out _ f9) (conv_st (cap := cc) (sl_keep hcs f9' (by simp)) rfl)
        refine hK.out _ _ hHeld2 (fun hHeld => ?_)
        clear hK K
        try simp only [Act.put, List.setIfInBounds_toArray, List.set_cons_zero, List.set_cons_succ]
        refine wpAnyH_take (i := 6) (oi := _) (v := ?_) (by simp only [List.getElem?_toArray, List.getElem?_cons_succ, List.getElem?_cons_zero]; exact rfl) (by kernel_rfl) (by kernel_rfl) (by kernel_rfl) (by exact fun _ _ _ h => h) (Or.inl ⟨by rfl, ?_⟩) (by assumption) ?_
        rotate_left
        · (intro w hSw; (try dsimp only at hSw); go_simp) <;> (with_reducible rfl)
        try simp only [Act.put, List.setIfInBounds_toArray, List.set_cons_zero, List.set_cons_succ]
        have p1 := f9.keep q1 (by simp)
        have y1 : w9.cell? ⟨B + 1, 0, none⟩ = some (.slice none 0 0) := cell_of p1
        have y2 : w9.frozen? ⟨B + 1, 0, none⟩ = false := free_of p1
        have fs : Fr [B + 1] w9 (w9.setCell ⟨B + 1, 0, none⟩ (.slice ua (sv P).length uc)) := (Fr.refl _ _).setCell (.inl (by simp)) _
        have hob8 := ob8.lt
        have hHeld3 := And.intro (show (w9.setCell ⟨B + 1, 0, none⟩ (.slice ua (sv P).length uc)).cell? ⟨B, 0, none⟩ = some (.slice a P.length cap) ∧ (w9.setCell ⟨B + 1, 0, none⟩ (.slice ua (sv P).length uc)).cell? ⟨B, 1, none⟩ = some (.int .i64 (tot P)) ∧ (w9.setCell ⟨B + 1, 0, none⟩ (.slice ua (sv P).length uc)).cell? ⟨B + 2, 0, none⟩ = some (.slice ua (sv P).length uc) from ⟨cell_of (keepS (f9.keep q0 (by simp)) (by dsimp only; omega)), cell_of (keepS (f9.keep q0 (by simp)) (by dsimp only; omega)), cell_of (keepS (f9.keep q2 (by simp)) (by dsimp only; omega))⟩)
          (conv_st (cap := cc) ((ob8.keep f9' (by simp)).keep fs (fun k e hm => by have h1 := (hob8 k e).1; have h2 := lt_of_heap q1; simp at hm h1; omega)).formSl5 rfl)
        refine wpAnyH_ready (rs := [7]) (by kernel_rfl) (by simp) ?_
        refine AllReadyH.cons (o := _) (by simp only [List.getElem?_toArray, List.getElem?_cons_succ, List.getElem?_cons_zero]; exact rfl) (fun K hK => ?_) AllReadyH.nil
        go_simp
        refine hK.out _ _ hHeld3 (fun hHeld => ?_)
        clear hK K
        try simp only [Act.put, List.setIfInBounds_toArray, List.set_cons_zero, List.set_cons_succ]
        refine wpAnyH_take (i := 8) (oi := _) (v := ?_) (by simp only [List.getElem?_toArray, List.getElem?_cons_succ, List.getElem?_cons_zero]; exact rfl) (by kernel_rfl) (by kernel_rfl) (by kernel_rfl) (by exact fun _ _ _ h => h) (Or.inl ⟨by rfl, ?_⟩) (by assumption) ?_
        rotate_left
        · (intro w hSw; (try dsimp only at hSw); go_simp) <;> (with_reducible rfl)
        try simp only [Act.put, List.setIfInBounds_toArray, List.set_cons_zero, List.set_cons_succ]
        refine wpAnyH_done (by kernel_rfl) ?_ _
        refine NoPanic.normal ?_
        clear hHeld hHeld1 hHeld2 hHeld3
        go_wp2_with fail
        have hKz : (w9.setCell ⟨B + 1, 0, none⟩ (.slice ua (sv P).length uc)).heap[D']? = some (.deferred (some [])) := keepS (f9.keep hKq (by simp)) (by dsimp only; omega)
        have bz : (w9.setCell ⟨B + 1, 0, none⟩ (.slice ua (sv P).length uc)).heap[B + 1]? = some (.cells #[.slice ua (sv P).length uc] 69 (0, 0)) := by have := heap_setCell_eq (i := 0) (u := .slice ua (sv P).length uc) p1; simpa using this
        have fP : Fr [D'] (w9.setCell ⟨B + 1, 0, none⟩ (.slice ua (sv P).length uc)) ((w9.setCell ⟨B + 1, 0, none⟩ (.slice ua (sv P).length uc)).putObj D' (.deferred none)) := ⟨rfl, rfl, rfl, by simp [World.putObj], fun k _ hn => World.putObj_heap_other (by simpa using hn)⟩
        have z0 : ((w9.setCell ⟨B + 1, 0, none⟩ (.slice ua (sv P).length uc)).putObj D' (.deferred none)).cell? ⟨B + 1, 0, none⟩ = some (.slice ua (sv P).length uc) := cell_of (fP.keep bz (by simp; omega))
        have hwr := frq.size
        have ho9 := ((ouq.keep f9 (by simp)).keep fs (fun k e hm => by have := (ouq.lt k e).1; simp at hm; omega)).keep fP (fun k e hm => by have := hul k e; have := (ouq.isCells e); obtain ⟨c, t, f, hk⟩ := this; simp at hm; subst hm; rw [hKq] at hk; cases hk)
        refine ⟨by simp, .inl ⟨_, _, rfl, run_takeDeferred hKz, ?_⟩⟩
        refine ⟨.tuple #[.agg #[.slice ua (sv P).length uc], .bool true], by simp [results, Try.results45, go_sem, z0], ?_⟩
        refine ⟨_, rfl, ((frq.then0 f9).trans fs (fun _ h => .inl h) (by simp; omega)).trans fP (fun _ h => .inl h) (by simp; omega), (Rs.of_own ho9).mono (fun x hx => by omega)⟩
end Go.Proofs.Ytpkgjgfdobcboaa
