/-
  Layer 5's reference: Take of a number from 0 on.
-/
import Derived.Test.YtpkgjgfdobcboaaRef05b
import Derived.Test.YtpkgjgfdobcboaaRopeJoin
import Derived.Deep.DeepCutAuto
import Derived.Test.YtpkgjgfdobcboaaRef12
namespace Go.Proofs.Ytpkgjgfdobcboaa
open Go.RowKit
set_option maxRecDepth 100000

theorem cutF_len : ∀ (P : Parts) (n : Nat), (cutF P n).length ≤ P.length := cutF_length
/-- What holds between two parts. -/
structure T5 (w wr : World) (B M : Nat) (a : Option Addr) (cap : Nat) (P F R : Parts) (u1 u2 : Value) : Prop where
  b0 : wr.heap[B]? = some (.cells #[.slice a P.length cap] 69 (0, 0))
  b1 : wr.heap[B + 1]? = some (.cells #[.slice none 0 0] 69 (0, 0))
  b2 : wr.heap[B + 2]? = some (.cells #[.slice none 0 0] 69 (0, 0))
  b3 : wr.heap[B + 3]? = some (.cells #[u1] 69 (0, 0))
  b4 : wr.heap[B + 4]? = some (.cells #[u2] 69 (0, 0))
  o1 : Ow wr M 9 u1 (sv F)
  o2 : Ow wr M 9 u2 (sv R)
  dj : ∀ b, u1.ownBlock = some b → u2.ownBlock ≠ some b
  fr : Fr [] w wr
  sz : M ≤ wr.heap.size
  mb : B + 5 ≤ M
  wb : w.heap.size ≤ B
section
variable {w wr w3 : World} {B M : Nat} {a : Option Addr} {cap : Nat} {P F R : Parts} {u1 u2 v : Value} {q : List UInt8}
/-- Behind the append to first, and its store. -/
theorem T5.first (h : T5 w wr B M a cap P F R u1 u2) (o : Obj) (f : Fr u1.ownBlock.toList (wr.alloc o) w3) (ho : Ow w3 M 9 v (sv (F ++ [q]))) (hv : v.ownBlock = u1.ownBlock ∨ v.ownBlock = some (wr.heap.size + 1))  :
    T5 w (w3.setCell ⟨B + 3, 0, none⟩ v) B M a cap P (F ++ [q]) R v u2 := by
  have hl1 := h.o1.lt
  have hl2 := h.o2.lt
  have hmb := h.mb
  have hwb := h.wb
  have hsz := h.sz
  have hn : ∀ x, x < M → x ∉ u1.ownBlock.toList := fun x hx hm => by have := (hl1 x (by simpa using hm)).1; omega
  have hfs := f.size
  simp at hfs
  have fS : Fr [B + 3] w3 (w3.setCell ⟨B + 3, 0, none⟩ v) := (Fr.refl _ _).setCell (.inl (by simp)) _
  have q3 := heap_setCell_eq (i := 0) (u := v) (f.keep (keepA (o := o) h.b3) (hn _ (by omega)))
  refine ⟨keepS (f.keep (keepA (o := o) h.b0) (hn _ (by omega))) (by dsimp only; omega), keepS (f.keep (keepA (o := o) h.b1) (hn _ (by omega))) (by dsimp only; omega), keepS (f.keep (keepA (o := o) h.b2) (hn _ (by omega))) (by dsimp only; omega), by simpa using q3, keepS (f.keep (keepA (o := o) h.b4) (hn _ (by omega))) (by dsimp only; omega), ?_, ?_, ?_, ?_, ?_, hmb, hwb⟩
  · exact ho.keep fS (fun j e hm => by have := (ho.lt j e).1; simp at hm; omega)
  · exact ((h.o2.keep ((Fr.refl [] wr).alloc o) (by simp)).keep f (fun j e hm => h.dj j (by simpa using hm) e)).keep fS (fun j e hm => by have := (hl2 j e).1; simp at hm; omega)
  · intro b e1 e2
    rcases hv with h' | h'
    · exact h.dj b (by rw [← h']; exact e1) e2
    · rw [e1] at h'; injection h' with h'; have := (hl2 b e2).2; omega
  · exact ((h.fr.alloc o).own f (fun j e => .inr (by have := (hl1 j e).1; omega))).setCell (.inr (by dsimp only; omega)) _
  · rw [World.size_setCell]; omega
theorem T5.rest (h : T5 w wr B M a cap P F R u1 u2) (o : Obj) (f : Fr u2.ownBlock.toList (wr.alloc o) w3) (ho : Ow w3 M 9 v (sv (R ++ [q]))) (hv : v.ownBlock = u2.ownBlock ∨ v.ownBlock = some (wr.heap.size + 1))  :
    T5 w (w3.setCell ⟨B + 4, 0, none⟩ v) B M a cap P F (R ++ [q]) u1 v := by
  have hl1 := h.o1.lt
  have hl2 := h.o2.lt
  have hmb := h.mb
  have hwb := h.wb
  have hsz := h.sz
  have hn : ∀ x, x < M → x ∉ u2.ownBlock.toList := fun x hx hm => by have := (hl2 x (by simpa using hm)).1; omega
  have hfs := f.size
  simp at hfs
  have fS : Fr [B + 4] w3 (w3.setCell ⟨B + 4, 0, none⟩ v) := (Fr.refl _ _).setCell (.inl (by simp)) _
  have q3 := heap_setCell_eq (i := 0) (u := v) (f.keep (keepA (o := o) h.b4) (hn _ (by omega)))
  refine ⟨keepS (f.keep (keepA (o := o) h.b0) (hn _ (by omega))) (by dsimp only; omega), keepS (f.keep (keepA (o := o) h.b1) (hn _ (by omega))) (by dsimp only; omega), keepS (f.keep (keepA (o := o) h.b2) (hn _ (by omega))) (by dsimp only; omega), keepS (f.keep (keepA (o := o) h.b3) (hn _ (by omega))) (by dsimp only; omega), by simpa using q3, ?_, ?_, ?_, ?_, ?_, hmb, hwb⟩
  · exact ((h.o1.keep ((Fr.refl [] wr).alloc o) (by simp)).keep f (fun j e hm => h.dj j e (by simpa using hm))).keep fS (fun j e hm => by have := (hl1 j e).1; simp at hm; omega)
  · exact ho.keep fS (fun j e hm => by have := (ho.lt j e).1; simp at hm; omega)
  · intro b e1 e2
    rcases hv with h' | h'
    · exact h.dj b e1 (by rw [← h']; exact e2)
    · rw [e2] at h'; injection h' with h'; have := (hl1 b e1).2; omega
  · exact ((h.fr.alloc o).own f (fun j e => .inr (by have := (hl2 j e).1; omega))).setCell (.inr (by dsimp only; omega)) _
  · rw [World.size_setCell]; omega
end

def TakePost5 (P : Parts) (m : Nat) (w : World) (e : Ending) (w' : World) : Prop :=
  ∃ v1 v2, e = .returned (.tuple #[v1, v2, .int .i64 0]) ∧ Fr [] w w' ∧ Rs w' (fun b => w.heap.size ≤ b) v1 (cutF P m) ∧ Rs w' (fun b => w.heap.size ≤ b) v2 (cutR P m)
set_option maxHeartbeats 8000000 in
theorem ref5_take {w : World} {N : Nat → Prop} {v : Value} {P : Parts} (h : Rs w N v P) (hf : Full P) (hn : P.length ≤ 100000) (ht : tot P ≤ 1000000) (m : Nat) (hm : m ≤ 9223372036854775807) :
    Calls Try.prog 50 #[v, .int .i64 m] w (TakePost5 P m w) := by
  obtain ⟨a, cap, rfl, h1, h2, h3, _⟩ := h
  have HU : Hid (Try.prog.underlying 61 = some (.slice 9)) := Lib.hid Try.underlying61
  have HIN : Hid ((Try.prog.info? 9).map (fun i => (i.zero, i.size, i.bytes)) = some (some (.string ByteArray.empty), 1, 16)) := Lib.hid (by kernel_rfl)
  have HF := Lib.hid hf
  have HT := Lib.hid ht
  have hpi : (P.length : Int) ≤ 100000 := by omega
  have hmi : (0 : Int) ≤ m := by omega
  have hmj : (m : Int) ≤ 9223372036854775807 := by omega
  have HS3 := Lib.hid fun (w' : World) (f : Fr [] w w') => h3.keep f (by simp)
  clear hf ht h3
  go_enter Try.func50, Try.ntmps50
  go_wp2_with fail
  obtain ⟨W, hW, T0⟩ : ∃ W, W = (((((w.alloc (.cells #[.slice a P.length cap] 69)).alloc (.cells #[.slice none 0 0] 69)).alloc (.cells #[.slice none 0 0] 69)).alloc (.cells #[.slice none 0 0] 69)).alloc (.cells #[.slice none 0 0] 69)) ∧ T5 w W w.heap.size W.heap.size a cap P [] [] (.slice none 0 0) (.slice none 0 0) :=
    ⟨_, rfl, keepA (keepA (keepA (keepA (newA rfl)))), keepA (keepA (keepA (newA (by simp)))), keepA (keepA (newA (by simp))), keepA (newA (by simp)), newA (by simp), Ow.nil _ _ _, Ow.nil _ _ _, by simp [Value.ownBlock], (((((Fr.refl _ _).alloc _).alloc _).alloc _).alloc _).alloc _, Nat.le_refl _, by simp, Nat.le_refl _⟩
  rw [← hW]
  clear hW
  generalize W.heap.size = M at *
  generalize hB : w.heap.size = B at *
  have hBl : w.heap.size ≤ B := by omega
  clear hB
  go_loopw [9, 10] (fun vl vi wr => ∃ (k L : Nat) (F R : Parts) (u1 u2 : Value), k ≤ P.length ∧ vi = .int .i64 k ∧ vl = .int .i64 L ∧ Hid (F = cutF (P.take k) m ∧ R = cutR (P.take k) m ∧ L = m - tot (P.take k)) ∧ F.length ≤ 100000 ∧ R.length ≤ 100000 ∧ L ≤ m ∧ Hid (T5 w wr B M a cap P F R u1 u2)) (fun _ i _ => P.length - (intOf i).toNat)
  case atStart => exact ⟨0, m, [], [], _, _, by omega, rfl, rfl, Lib.hid ⟨rfl, rfl, by simp [tot]⟩, by simp, by simp, Nat.le_refl _, Lib.hid T0⟩
  case round =>
    clear T0
    obtain ⟨k, L, F, R, u1, u2, hk, rfl, rfl, HE, hFl, hRl, hLm, T⟩ := hrel
    replace T := T.out
    obtain ⟨xa, xc, rfl, _⟩ := id T.o1.form
    obtain ⟨ya, yc, rfl, _⟩ := id T.o2.form
    have c0 : wr.cell? ⟨B, 0, none⟩ = some (.slice a P.length cap) := cell_of T.b0
    have c3 : wr.cell? ⟨B + 3, 0, none⟩ = some (.slice xa (sv F).length xc) := cell_of T.b3
    have c4 : wr.cell? ⟨B + 4, 0, none⟩ = some (.slice ya (sv R).length yc) := cell_of T.b4
    have c3' : wr.frozen? ⟨B + 3, 0, none⟩ = false := free_of T.b3
    have c4' : wr.frozen? ⟨B + 4, 0, none⟩ = false := free_of T.b4
    have hmb := T.mb
    by_cases hlt : (k : Int) < P.length
    · have hlt' : k < P.length := by omega
      obtain ⟨sb, so, rfl, hsb, hcell⟩ := (HS3.out wr T.fr).str_at hlt'
      have hpos : 0 < P[k].length := HF.out _ (List.getElem_mem hlt')
      have hpl : P[k].length ≤ 1000000 := Nat.le_trans (part_le (List.getElem_mem hlt')) HT.out
      have e1 := cutF_snoc (P.take k) P[k] m
      have e2 := cutR_snoc (P.take k) P[k] m hpos
      have e3 := tot_take_succ hlt'
      rw [← List.take_succ_eq_append_getElem hlt', ← HE.out.1, ← HE.out.2.2] at e1
      rw [← List.take_succ_eq_append_getElem hlt', ← HE.out.2.1, ← HE.out.2.2] at e2
      have hmt : (m ≤ tot (P.take k)) ↔ L = 0 := by have := HE.out.2.2; omega
      have e4 : m - tot (P.take (k + 1)) = L - P[k].length := by have := HE.out.2.2; omega
      generalize hPk : P[k] = p at *
      have HPK := Lib.hid hPk
      clear hPk
      have HSC := Lib.hid fun (w' : World) (f : Fr [] w w') => (show w'.cell? ⟨sb, so + k, none⟩ = some (.string (st p)) from by
        obtain ⟨sb', so', e, _, hc⟩ := (HS3.out w' f).str_at hlt'
        simp only [Option.some.injEq, Addr.mk.injEq, and_true] at e
        obtain ⟨rfl, rfl⟩ := e
        rw [HPK.out] at hc
        exact hc)
      have HX := Lib.hid (And.intro e1 (And.intro e2 (And.intro hmt e4)))
      have hpI : (0 : Int) < p.length := by omega
      have hpJ : (p.length : Int) ≤ 1000000 := by omega
      have hLi : (L : Int) ≤ m := by omega
      clear e1 e2 e3 e4 hmt hpos hlt
      by_cases hL0 : L = 0
      · subst hL0
        have HE : Hid (F = cutF (P.take (k + 1)) m ∧ (R ++ [p]) = cutR (P.take (k + 1)) m ∧ 0 = m - tot (P.take (k + 1))) := Lib.hid (by
          obtain ⟨a1, a2, a3, a4⟩ := HX.out
          exact ⟨by rw [a1, if_pos (a3.2 rfl), List.append_nil], by rw [a2, if_pos (by omega), List.drop_zero], by omega⟩)
        have HFl : (F).length ≤ 100000 := by rw [HE.out.1]; exact Nat.le_trans (cutF_length _ _) (by rw [List.length_take]; omega)
        have HRl : ((R ++ [p])).length ≤ 100000 := by rw [HE.out.2.1]; exact Nat.le_trans (cutR_length _ _) (by rw [List.length_take]; omega)
        have HLm : 0 ≤ m := by omega
        have hrun : ∀ w, (Instr.slice 9 (.string (st p)) (some (.int .i64 0)) none none).run Try.prog w = .ok (.string (st p)) w := fun w => by simpa using run_from p 0 (by omega) w
        have HOW := Lib.hid fun (w' : World) (f : Fr [] wr w') => T.o2.keep f (by simp)
        have HN := Lib.hid fun (x : Nat) (hx : x < M) (hm : x ∈ (Value.slice ya (sv R).length yc).ownBlock.toList) => (show False from by have := (T.o2.lt x (by simpa using hm)).1; omega)
        have H3 : Hid ((sv R).length + 1 ≤ maxLen) := Lib.hid (by rw [sv_len]; unfold maxLen; omega)
        have H4 : Hid (((sv R).length + 1) * 16 ≤ 140737488355328) := Lib.hid (by rw [sv_len]; omega)
        have HM : Hid (M ≤ (wr.drew.alloc (.cells #[.string (st (p))] 9)).heap.size) := Lib.hid (by have := T.sz; simp; omega)
        have y0 : (wr.alloc (.cells #[.string (st (p))] 9)).cell? ⟨B + 4, 0, none⟩ = some (Value.slice ya (sv R).length yc) := cell_of (keepA T.b4)
        have HB := Lib.hid T.b4
        go_wp2_with fail
        go_region_law ((refine step_append_fr2 (by simp [Region.wanted, yielded]) (.tmp 60) (.tmp 68) 61 (by rfl) 9 (.string ByteArray.empty) 16 HU.out HIN.out rfl M (Value.slice ya (sv R).length yc) (sv R) (by simp [Act.eval]) (HOW.out _ ((Fr.refl _ _).drew.alloc _)) (some ⟨wr.heap.size, 0, none⟩) 1 1 [.string (st (p))] (by simp [Act.eval]) rfl (SlV.box wr.drew _ _) (one_string _) H3.out H4.out HM.out ?_; intro v3 w3 own3 f3 hb3; rw [sv_snoc] at own3; obtain ⟨ga3, gc3, rfl, _⟩ := own3.form; have q3 := f3.keep (keepA (w := wr.drew) HB.out) (fun hm => HN.out _ (by omega) hm); have x2' := cell_of (i := 0) q3; have x3' := free_of (i := 0) q3))
        all_goals
          have T2 := T.rest _ (Fr.undrew f3) own3 (by simpa using hb3)
          clear HOW HN H3 H4 HM y0 HB
          go_wp2_with fail
          go_roundw
          case rel => exact ⟨k + 1, 0, F, (R ++ [p]), _, _, by omega, by go_num, by first | rfl | go_num, HE, HFl, HRl, HLm, Lib.hid T2⟩
          case measure => simp [intOf]; omega
      by_cases hLp : L < p.length
      · have hL1 : (0 : Int) < L := by omega
        have hL2 : (L : Int) < p.length := by omega
        have hL3 : L ≤ p.length := by omega
        obtain ⟨p1, hp1⟩ : ∃ q, p.take L = q := ⟨_, rfl⟩
        obtain ⟨p2, hp2⟩ : ∃ q, p.drop L = q := ⟨_, rfl⟩
        have HE : Hid ((F ++ [p1]) = cutF (P.take (k + 1)) m ∧ (R ++ [p2]) = cutR (P.take (k + 1)) m ∧ 0 = m - tot (P.take (k + 1))) := Lib.hid (by
          obtain ⟨a1, a2, a3, a4⟩ := HX.out
          exact ⟨by rw [a1, if_neg (fun h => hL0 (a3.1 h)), hp1], by rw [a2, if_pos (by omega), hp2], by omega⟩)
        have HFl : ((F ++ [p1])).length ≤ 100000 := by rw [HE.out.1]; exact Nat.le_trans (cutF_length _ _) (by rw [List.length_take]; omega)
        have HRl : ((R ++ [p2])).length ≤ 100000 := by rw [HE.out.2.1]; exact Nat.le_trans (cutR_length _ _) (by rw [List.length_take]; omega)
        have HLm : 0 ≤ m := by omega
        have hrun1 := run_to p L hL3
        have hrun2 := run_from p L hL3
        rw [hp1] at hrun1
        rw [hp2] at hrun2
        clear hp1 hp2 hL0
        have HOW := Lib.hid fun (w' : World) (f : Fr [] wr w') => T.o1.keep f (by simp)
        have HN := Lib.hid fun (x : Nat) (hx : x < M) (hm : x ∈ (Value.slice xa (sv F).length xc).ownBlock.toList) => (show False from by have := (T.o1.lt x (by simpa using hm)).1; omega)
        have H3 : Hid ((sv F).length + 1 ≤ maxLen) := Lib.hid (by rw [sv_len]; unfold maxLen; omega)
        have H4 : Hid (((sv F).length + 1) * 16 ≤ 140737488355328) := Lib.hid (by rw [sv_len]; omega)
        have HM : Hid (M ≤ (wr.drew.alloc (.cells #[.string (st (p1))] 9)).heap.size) := Lib.hid (by have := T.sz; simp; omega)
        have y0 : (wr.alloc (.cells #[.string (st (p1))] 9)).cell? ⟨B + 3, 0, none⟩ = some (Value.slice xa (sv F).length xc) := cell_of (keepA T.b3)
        have HB := Lib.hid T.b3
        go_upto_region 13 with fail
        go_cut [] (fun wx => ∃ (ga3 : Option Addr) (gc3 : Nat), Hid (T5 w wx B M (some ⟨sb, so, none⟩) cap P (F ++ [p1]) R (.slice ga3 (sv (F ++ [p1])).length gc3) (.slice ya (sv R).length yc)))
        case first =>
          go_region_law ((refine step_append_fr2 (by simp [Region.wanted, yielded]) (.tmp 40) (.tmp 48) 61 (by rfl) 9 (.string ByteArray.empty) 16 HU.out HIN.out rfl M (Value.slice xa (sv F).length xc) (sv F) (by simp [Act.eval]) (HOW.out _ ((Fr.refl _ _).drew.alloc _)) (some ⟨wr.heap.size, 0, none⟩) 1 1 [.string (st (p1))] (by simp [Act.eval]) rfl (SlV.box wr.drew _ _) (one_string _) H3.out H4.out HM.out ?_; intro v3 w3 own3 f3 hb3; rw [sv_snoc] at own3; obtain ⟨ga3, gc3, rfl, _⟩ := own3.form; have q3 := f3.keep (keepA (w := wr.drew) HB.out) (fun hm => HN.out _ (by omega) hm); have x2' := cell_of (i := 0) q3; have x3' := free_of (i := 0) q3))
          all_goals go_wp2_with fail
          all_goals go_meet
          all_goals exact ⟨_, _, Lib.hid (T.first _ (Fr.undrew f3) own3 (by simpa using hb3))⟩
        case rest =>
          obtain ⟨ga3, gc3, HT2⟩ := hcut
          clear HOW HN H3 H4 HM y0 HB c0 c3 c4 c3' c4'
          replace T := HT2.out
          clear HT2
          have c0 : wc.cell? ⟨B, 0, none⟩ = some (.slice (some ⟨sb, so, none⟩) P.length cap) := cell_of T.b0
          have c4 : wc.cell? ⟨B + 4, 0, none⟩ = some (.slice ya (sv R).length yc) := cell_of T.b4
          have c4' : wc.frozen? ⟨B + 4, 0, none⟩ = false := free_of T.b4
          have hcell := HSC.out wc T.fr
          have HOW := Lib.hid fun (w' : World) (f : Fr [] wc w') => T.o2.keep f (by simp)
          have HN := Lib.hid fun (x : Nat) (hx : x < M) (hm : x ∈ (Value.slice ya (sv R).length yc).ownBlock.toList) => (show False from by have := (T.o2.lt x (by simpa using hm)).1; omega)
          have H3 : Hid ((sv R).length + 1 ≤ maxLen) := Lib.hid (by rw [sv_len]; unfold maxLen; omega)
          have H4 : Hid (((sv R).length + 1) * 16 ≤ 140737488355328) := Lib.hid (by rw [sv_len]; omega)
          have HM : Hid (M ≤ (wc.drew.alloc (.cells #[.string (st (p2))] 9)).heap.size) := Lib.hid (by have := T.sz; simp; omega)
          have y0 : (wc.alloc (.cells #[.string (st (p2))] 9)).cell? ⟨B + 4, 0, none⟩ = some (Value.slice ya (sv R).length yc) := cell_of (keepA T.b4)
          have HB := Lib.hid T.b4
          go_wp2_with fail
          go_region_law ((refine step_append_fr2 (by simp [Region.wanted, yielded]) (.tmp 60) (.tmp 68) 61 (by rfl) 9 (.string ByteArray.empty) 16 HU.out HIN.out rfl M (Value.slice ya (sv R).length yc) (sv R) (by simp [Act.eval]) (HOW.out _ ((Fr.refl _ _).drew.alloc _)) (some ⟨wc.heap.size, 0, none⟩) 1 1 [.string (st (p2))] (by simp [Act.eval]) rfl (SlV.box wc.drew _ _) (one_string _) H3.out H4.out HM.out ?_; intro v3 w3 own3 f3 hb3; rw [sv_snoc] at own3; obtain ⟨ga3, gc3, rfl, _⟩ := own3.form; have q3 := f3.keep (keepA (w := wc.drew) HB.out) (fun hm => HN.out _ (by omega) hm); have x2' := cell_of (i := 0) q3; have x3' := free_of (i := 0) q3))
          all_goals
            have T2 := T.rest _ (Fr.undrew f3) own3 (by simpa using hb3)
            clear HOW HN H3 H4 HM y0 HB
            go_wp2_with fail
            go_roundw
            case rel => exact ⟨k + 1, 0, (F ++ [p1]), (R ++ [p2]), _, _, by omega, by go_num, by first | rfl | go_num, HE, HFl, HRl, HLm, Lib.hid T2⟩
            case measure => simp [intOf]; omega
      · have hL3 : (p.length : Int) ≤ L := by omega
        have hLs : (((L - p.length : Nat)) : Int) = (L : Int) - p.length := by omega
        have HE : Hid ((F ++ [p]) = cutF (P.take (k + 1)) m ∧ R = cutR (P.take (k + 1)) m ∧ (L - p.length) = m - tot (P.take (k + 1))) := Lib.hid (by
          obtain ⟨a1, a2, a3, a4⟩ := HX.out
          exact ⟨by rw [a1, if_neg (fun h => hL0 (a3.1 h)), List.take_of_length_le (by omega)], by rw [a2, if_neg hLp, List.append_nil], by omega⟩)
        have HFl : ((F ++ [p])).length ≤ 100000 := by rw [HE.out.1]; exact Nat.le_trans (cutF_length _ _) (by rw [List.length_take]; omega)
        have HRl : (R).length ≤ 100000 := by rw [HE.out.2.1]; exact Nat.le_trans (cutR_length _ _) (by rw [List.length_take]; omega)
        have HLm : (L - p.length) ≤ m := by omega
        have HLS := Lib.hid hLs
        have hrun : ∀ w, (Instr.slice 9 (.string (st p)) none (some (.int .i64 p.length)) none).run Try.prog w = .ok (.string (st p)) w := fun w => by
          have := run_to p p.length (Nat.le_refl _) w
          rwa [List.take_length] at this
        clear hL0 hLp hLs
        have HOW := Lib.hid fun (w' : World) (f : Fr [] wr w') => T.o1.keep f (by simp)
        have HN := Lib.hid fun (x : Nat) (hx : x < M) (hm : x ∈ (Value.slice xa (sv F).length xc).ownBlock.toList) => (show False from by have := (T.o1.lt x (by simpa using hm)).1; omega)
        have H3 : Hid ((sv F).length + 1 ≤ maxLen) := Lib.hid (by rw [sv_len]; unfold maxLen; omega)
        have H4 : Hid (((sv F).length + 1) * 16 ≤ 140737488355328) := Lib.hid (by rw [sv_len]; omega)
        have HM : Hid (M ≤ (wr.drew.alloc (.cells #[.string (st (p))] 9)).heap.size) := Lib.hid (by have := T.sz; simp; omega)
        have y0 : (wr.alloc (.cells #[.string (st (p))] 9)).cell? ⟨B + 3, 0, none⟩ = some (Value.slice xa (sv F).length xc) := cell_of (keepA T.b3)
        have HB := Lib.hid T.b3
        go_wp2_with fail
        go_region_law ((refine step_append_fr2 (by simp [Region.wanted, yielded]) (.tmp 40) (.tmp 48) 61 (by rfl) 9 (.string ByteArray.empty) 16 HU.out HIN.out rfl M (Value.slice xa (sv F).length xc) (sv F) (by simp [Act.eval]) (HOW.out _ ((Fr.refl _ _).drew.alloc _)) (some ⟨wr.heap.size, 0, none⟩) 1 1 [.string (st (p))] (by simp [Act.eval]) rfl (SlV.box wr.drew _ _) (one_string _) H3.out H4.out HM.out ?_; intro v3 w3 own3 f3 hb3; rw [sv_snoc] at own3; obtain ⟨ga3, gc3, rfl, _⟩ := own3.form; have q3 := f3.keep (keepA (w := wr.drew) HB.out) (fun hm => HN.out _ (by omega) hm); have x2' := cell_of (i := 0) q3; have x3' := free_of (i := 0) q3))
        all_goals
          have T2 := T.first _ (Fr.undrew f3) own3 (by simpa using hb3)
          clear HOW HN H3 H4 HM y0 HB c0 c3 c4 c3' c4' hcell
          have d0 : (w3.setCell ⟨B + 3, 0, none⟩ (.slice ga3 (sv (F ++ [p])).length gc3)).cell? ⟨B, 0, none⟩ = some (.slice (some ⟨sb, so, none⟩) P.length cap) := cell_of T2.b0
          have d1 := HSC.out _ T2.fr
          go_wp2_with fail
          go_roundw
          case rel => exact ⟨k + 1, (L - p.length), (F ++ [p]), R, _, _, by omega, by go_num, by rw [HLS.out], HE, HFl, HRl, HLm, Lib.hid T2⟩
          case measure => simp [intOf]; omega
    · have hke : P.take k = P := List.take_of_length_le (by omega)
      obtain ⟨e1, e2, _⟩ := HE.out
      rw [hke] at e1 e2
      have HEE := Lib.hid (And.intro e1 e2)
      have HTT := Lib.hid T
      have hFi := Rs.of_own T.o1
      obtain ⟨c1, c1'⟩ := (show wr.cell? ⟨B + 1, 0, none⟩ = some (.slice none 0 0) ∧ wr.frozen? ⟨B + 1, 0, none⟩ = false from ⟨cell_of T.b1, free_of T.b1⟩)
      obtain ⟨c2, c2'⟩ := (show wr.cell? ⟨B + 2, 0, none⟩ = some (.slice none 0 0) ∧ wr.frozen? ⟨B + 2, 0, none⟩ = false from ⟨cell_of T.b2, free_of T.b2⟩)
      have q1 := heap_setCell_eq (i := 0) (u := .slice xa (sv F).length xc) T.b1
      have q2 := heap_setCell_eq (i := 0) (u := .slice ya (sv R).length yc) (keepS (a := ⟨B + 1, 0, none⟩) (v := .slice xa (sv F).length xc) T.b2 (by dsimp only; omega))
      clear hke e1 e2 T hFi
      go_wp2_with fail
      go_region
      go_wp2_with fail
      have fE : Fr [B + 1, B + 2] wr (((wr.setCell ⟨B + 1, 0, none⟩ (.slice xa (sv F).length xc)).setCell ⟨B + 2, 0, none⟩ (.slice ya (sv R).length yc)).drew) := (((Fr.refl _ _).setCell (.inl (by simp)) _).setCell (.inl (by simp)) _).drew
      have z2 : (((wr.setCell ⟨B + 1, 0, none⟩ (.slice xa (sv F).length xc)).setCell ⟨B + 2, 0, none⟩ (.slice ya (sv R).length yc)).drew).cell? ⟨B + 2, 0, none⟩ = some (.slice ya (sv R).length yc) := by rw [show ∀ (x : World) (p : Addr), x.drew.cell? p = x.cell? p from fun _ _ => rfl, cell_of q2]; simp
      have z1 : (((wr.setCell ⟨B + 1, 0, none⟩ (.slice xa (sv F).length xc)).setCell ⟨B + 2, 0, none⟩ (.slice ya (sv R).length yc)).drew).cell? ⟨B + 1, 0, none⟩ = some (.slice xa (sv F).length xc) := by rw [show ∀ (x : World) (p : Addr), x.drew.cell? p = x.cell? p from fun _ _ => rfl, cell_of (keepS q1 (by dsimp only; omega))]; simp
      refine bodyPost_ret (v := .tuple #[.agg #[.slice xa (sv F).length xc], .agg #[.slice ya (sv R).length yc], .int .i64 0]) (by simp [results, Try.results50, go_sem, z1, z2]) rfl ?_
      have T := HTT.out
      have hl1 := T.o1.lt
      have hl2 := T.o2.lt
      have hwb := T.wb
      refine ⟨_, _, rfl, T.fr.trans fE (by simp) (by simp; omega), ?_, ?_⟩
      · rw [← HEE.out.1]
        exact (Rs.of_own (T.o1.keep fE (fun j e hm => by have := (hl1 j e).1; simp at hm; omega))).mono (fun x hx => by omega)
      · rw [← HEE.out.2]
        exact (Rs.of_own (T.o2.keep fE (fun j e hm => by have := (hl2 j e).1; simp at hm; omega))).mono (fun x hx => by omega)
end Go.Proofs.Ytpkgjgfdobcboaa

