/-
  Package stream: drop, shut, CloseWrite, CloseRead; End, Cancel.
-/
import Derived.Test.YtdoamelhclnphaaStOpA
import Derived.MapKept
import Derived.Carry
namespace Go.Proofs.Ytdoamelhclnphaa
open Go.RowKit
set_option maxRecDepth 100000

theorem Invokes.at_ {t : TypeId} {v : Value} {name : String} {args : Array Value} {w : World} {R : Ending → World → Prop} (h : Invokes (.iface t v) name args w R) :
    ∃ f rv, (∀ w, (method (Try.prog.types.size + Made.depth) t v name).run Try.prog w = .ok (f, rv) w) ∧ (∀ args w, (callFunc f args).run Try.prog w = .ok (.enter f args) w) ∧ Calls Try.prog f (#[rv] ++ args) w R := by
  obtain ⟨t', v', f, rv, e, h1, h2, h3⟩ := h
  injection e with e1 e2
  subst e1 e2
  exact ⟨f, rv, h1, h2, h3⟩
section
variable {w : World} {N : Nat → Prop} {L : List Nat} {b : Nat} {m : SM} {sv : Value} {a : Option Addr} {cap : Nat} {P : Parts}
theorem StB.sto {a : Option Addr} {len cap : Nat} {n acc x y : Int} {busy : Bool} (h : StB w b sv busy a len cap n acc x y) (u : Value) : StB (w.setCell ⟨b, 0, none⟩ u) b u busy a len cap n acc x y := by
  have := heap_setCell_eq (i := 0) (u := u) h
  unfold StB
  rw [this]
  simp
theorem StB.wr {a : Option Addr} {len cap : Nat} {n acc x y : Int} {busy : Bool} (h : StB w b sv busy a len cap n acc x y) (z : Int) : StB (w.setCell ⟨b, 5, none⟩ (.int .i64 z)) b sv busy a len cap n acc z y := by
  have := heap_setCell_eq (i := 5) (u := .int .i64 z) h
  unfold StB
  rw [this]
  simp
theorem StB.rd {a : Option Addr} {len cap : Nat} {n acc x y : Int} {busy : Bool} (h : StB w b sv busy a len cap n acc x y) (z : Int) : StB (w.setCell ⟨b, 6, none⟩ (.int .i64 z)) b sv busy a len cap n acc x z := by
  have := heap_setCell_eq (i := 6) (u := .int .i64 z) h
  unfold StB
  rw [this]
  simp
theorem st_drop (h : StR w N L b m sv a cap P) :
    Calls Try.prog 112 #[.pointer (some ⟨b, 0, none⟩)] w fun e w' => e = .returned (.tuple #[]) ∧ Fr [b] w w' ∧ ∃ sv' L', (∀ x ∈ L', w.heap.size ≤ x) ∧ StR w' (fun x => N x ∧ x < w.heap.size) L' b { m with q := [] } sv' a cap P := by
  obtain ⟨st, su, rfl⟩ := h.s.form
  have HH := Lib.hid h
  have hbd := h.s.bd
  have hbl := lt_of_heap h.k
  obtain ⟨c0, _, _, _, _, _, _⟩ := h.k.cells
  obtain ⟨f, rv, hm, he, hc⟩ := (sto_room h.s).at_
  simp [go_sem] at hm
  have HC := Lib.hid hc
  have HO := Lib.hid fun w1 => stm_of m.c w1 hbd.1 hbd.2.1
  clear h hc hbd
  go_enter Try.func112, Try.ntmps112
  go_wp2_with fail
  refine HC.out.mono ?_
  rintro e w1 ⟨rfl, f1⟩
  clear HC hm he
  go_wp2_with fail
  refine (HO.out _).mono ?_
  rintro e w2 ⟨t2, u2, L2, rfl, f2, hL2, hs2⟩
  have g2 := f1.then0 f2
  have h2 := HH.out.keep0 g2
  have k0 := h2.k.cells.c0
  have k1 := h2.k.free 0
  have hs1 := f1.size
  have HS2 := Lib.hid (And.intro hL2 hs2)
  clear hL2 hs2 c0 f1 f2
  have H2 := Lib.hid h2
  clear h2 HO
  go_wp2_with fail
  go_end0
  have h2 := H2.out
  obtain ⟨hL2, hs2⟩ := HS2.out
  have fb : Fr [b] w2 (w2.setCell ⟨b, 0, none⟩ (.iface t2 u2)) := (Fr.refl _ _).setCell (.inl (by simp)) _
  refine ⟨rfl, (g2.mono (T := [b]) (by simp)).then fb, .iface t2 u2, L2, fun x hx => by have := (hL2 x hx).1; omega, h2.k.sto _, hs2.keep fb (fun x hx hm => by simp at hm; subst hm; have := (hL2 _ hx).1; omega), (HH.out.p.there.keep g2 (by simp)).keep fb (fun x hx hn => by simp at hx; subst hx; exact HH.out.nb hn.1), h2.e, fun hn => h2.nb hn.1, fun x hx hn => ?_, fun hm => ?_⟩
  · have := (hL2 x hx).1
    have := hn.2
    omega
  · have := (hL2 _ hm).1
    omega

theorem map_ins {w : World} {r : Nat} (h : w.heap[r]? = some (.map #[] 0)) (v : Value) :
    (Instr.mapUpdate 163 (.map (some r)) (.int .i64 1) v).run Try.prog w = .ok () { w with heap := w.heap.setIfInBounds r (.map #[{ key := .int .i64 1, val := v, born := 0 }] 1) } := by
  have h1 : (Instr.checkKey false 10000 125 (.int .i64 1)).run Try.prog w = .ok () w := MapKept.run_checkKey (d := .int .i64) Try.underlying125 (by simp [MapKept.IsKey]) false 9999
  have h2 : (Instr.findKey 125 (.int .i64 1) []).run Try.prog w = .ok none w := MapKept.run_findKey Try.underlying125 rfl
  have h3 := MapKept.run_setObj_map (P := Try.prog) (.map #[{ key := .int .i64 1, val := v, born := 0 }] 1) h
  unfold Instr.mapUpdate
  simp only [Sem.run_bind, run_underlying Try.underlying163, Result.andThen_ok, MapKept.run_getObj_map h, h1, h2]
  exact h3
theorem map_get {w : World} {r : Nat} {v : Value} (h : w.heap[r]? = some (.map #[{ key := .int .i64 1, val := v, born := 0 }] 1)) :
    (Instr.lookup 163 (.map (some r)) (.int .i64 1) false).run Try.prog w = .ok v w ∧ (Instr.lookup 163 (.map (some r)) (.int .i64 0) false).run Try.prog w = .ok .nilFunc w := by
  have h1 : ∀ n, (Instr.checkKey false 10000 125 (.int .i64 n)).run Try.prog w = .ok () w := fun n => MapKept.run_checkKey (d := .int .i64) Try.underlying125 (by simp [MapKept.IsKey]) false 9999
  have h2 : (Instr.findKey 125 (.int .i64 1) [{ key := .int .i64 1, val := v, born := 0 }]).run Try.prog w = .ok (some (0, v)) w := MapKept.run_findKey Try.underlying125 rfl
  have h3 : (Instr.findKey 125 (.int .i64 0) [{ key := .int .i64 1, val := v, born := 0 }]).run Try.prog w = .ok none w := MapKept.run_findKey Try.underlying125 rfl
  have h4 : (zeroValue 1).run Try.prog w = .ok .nilFunc w := by kernel_rfl
  have he : (#[({ key := .int .i64 1, val := v, born := 0 } : MapEntry)]).isEmpty = false := rfl
  unfold Instr.lookup
  simp only [Sem.run_bind, run_underlying Try.underlying163, Result.andThen_ok, MapKept.run_getObj_map h, h1, h2, h3, h4, Sem.run_pure, he]
  exact ⟨rfl, rfl⟩
/-- The world behind the map that shut makes. -/
theorem map_made {w : World} (v : Value) : ∃ W, (∀ w', w' = w.alloc (.map #[] 0) → (Instr.mapUpdate 163 (.map (some w.heap.size)) (.int .i64 1) v).run Try.prog w' = .ok () W) ∧
    (Instr.lookup 163 (.map (some w.heap.size)) (.int .i64 1) false).run Try.prog W = .ok v W ∧ (Instr.lookup 163 (.map (some w.heap.size)) (.int .i64 0) false).run Try.prog W = .ok .nilFunc W ∧ Fr [] w W := by
  have h : (w.alloc (.map #[] 0)).heap[w.heap.size]? = some (.map #[] 0) := newA rfl
  have h2 : ({ w.alloc (.map #[] 0) with heap := (w.alloc (.map #[] 0)).heap.setIfInBounds w.heap.size (.map #[{ key := .int .i64 1, val := v, born := 0 }] 1) } : World).heap[w.heap.size]? = some (.map #[{ key := .int .i64 1, val := v, born := 0 }] 1) := (MapKept.heap_set h).1
  refine ⟨_, fun w' e => by rw [e]; exact map_ins h v, (map_get h2).1, (map_get h2).2, rfl, rfl, rfl, by simp, fun k hk _ => ?_⟩
  rw [(MapKept.heap_set h).2 k (by omega)]
  exact heap_alloc_lt hk

def ShutPost (w : World) (N : Nat → Prop) (L : List Nat) (b : Nat) (r : SE) (e : Ending) (w' : World) : Prop := e = .returned (.int .i64 r.err) ∧ SP w N L b r.m w'
set_option maxHeartbeats 1000000 in
theorem shut_w (h : St w N L b m) (x : Int) :
    Calls Try.prog 81 #[.pointer (some ⟨b, 0, none⟩), .int .i64 0, .int .i64 x] w (ShutPost w N L b (closewM m x)) := by
  obtain ⟨hok, sv, a, cap, P, h⟩ := h
  have HH := Lib.hid h
  have HS := Lib.hid (SP.same (w := w) ⟨hok, sv, a, cap, P, h⟩ (Fr.refl _ _))
  have HZ := Lib.hid (st_none h)
  obtain ⟨_, _, _, _, _, c5, c6⟩ := h.k.cells
  have k5 := h.k.free 5
  have hok2 := closewM_ok hok x
  by_cases hx : codeM x = false
  · have e : closewM m x = ⟨m, 2⟩ := by unfold closewM; rw [if_pos hx]
    rw [e]
    have hx' : ¬ (1 ≤ x ∧ x ≤ 1000) := fun hh => by rw [codeM_iff.2 hh] at hx; cases hx
    clear h hok hok2 e hx
    by_cases h1 : x < 1
    · clear hx'
      go_enter Try.func81, Try.ntmps81
      go_wp2_with fail
      refine HZ.out.mono ?_
      rintro e w' ⟨rfl, rfl⟩
      go_wp2_with fail
      go_ret
      exact ⟨rfl, HS.out⟩
    · have h2 : 1000 < x := by omega
      have h3 : 1 ≤ x := by omega
      clear h1 hx'
      go_enter Try.func81, Try.ntmps81
      go_wp2_with fail
      refine HZ.out.mono ?_
      rintro e w' ⟨rfl, rfl⟩
      go_wp2_with fail
      go_ret
      exact ⟨rfl, HS.out⟩
  obtain ⟨x1, x2⟩ := codeM_iff.1 (show codeM x = true from by simpa using hx)
  by_cases hw : m.w ≠ 0
  · have e : closewM m x = ⟨m, 14⟩ := by unfold closewM; rw [if_neg hx, if_pos hw]
    rw [e]
    obtain ⟨n1, n2⟩ : (m.w == 0) = false ∧ (m.w != 0) = true := by simp [hw]
    clear h hok hok2 e hx hw
    go_enter Try.func81, Try.ntmps81
    go_wp2_with fail
    refine HZ.out.mono ?_
    rintro e w' ⟨rfl, rfl⟩
    go_wp2_with fail
    go_ret
    exact ⟨rfl, HS.out⟩
  · have e : closewM m x = ⟨{ m with w := x }, 0⟩ := by unfold closewM; rw [if_neg hx, if_neg hw]
    have hw' : m.w = 0 := by omega
    rw [e] at hok2 ⊢
    rw [hw'] at c5
    have HK := Lib.hid hok2
    obtain ⟨w1, hw1, f1, h1⟩ : ∃ W, w.setCell ⟨b, 5, none⟩ (.int .i64 x) = W ∧ Fr [b] w W ∧ StR W N L b { m with w := x } sv a cap P := ⟨_, rfl, (Fr.refl _ _).setCell (.inl (by simp)) _, h.k.wr _, h.s.keep ((Fr.refl [b] _).setCell (.inl (by simp)) _) (fun y hy hm => by simp at hm; subst hm; exact h.bl hy), h.p.keep ((Fr.refl [b] _).setCell (.inl (by simp)) _) (fun y hy => by simp at hy; subst hy; exact h.nb), h.e, h.nb, h.nl, h.bl⟩
    have hmk : ∀ w : World, (Instr.makeMap 163 none).run Try.prog w = .ok (.map (some w.heap.size)) (w.alloc (.map #[] 0)) := fun w => run_makeMap _ w
    have hmf : ∀ (fn : Fn) (first cap : Array Value) (w : World), (Instr.makeFunc fn first cap).run Try.prog w = .ok (.func fn first cap) w := fun _ _ _ _ => rfl
    have hq0 : ∀ w : World, (binOp .neq 1 .nilFunc .nilFunc).run Try.prog w = .ok (.bool false) w := fun w => by kernel_rfl
    obtain ⟨w2, hin, _, hget, f2⟩ := map_made (w := w1) (.func (.func 112) #[.pointer (some ⟨b, 0, none⟩)] #[])
    replace hin := hin _ rfl
    have H1 := Lib.hid h1
    have HF := Lib.hid (And.intro f1 f2)
    clear h hok hok2 e hx hw hw' h1 f1 f2
    go_enter Try.func81, Try.ntmps81
    go_wp2_with fail
    refine HZ.out.mono ?_
    rintro e w' ⟨rfl, rfl⟩
    go_wp2_with fail
    go_ret
    obtain ⟨f1, f2⟩ := HF.out
    exact ⟨rfl, (f1.then0 f2).mono (by simp), N, L, fun _ => .inl, fun _ => .inl, HK.out, _, _, _, _, H1.out.keep0 f2⟩
set_option maxHeartbeats 1000000 in
theorem shut_r (h : St w N L b m) (x : Int) :
    Calls Try.prog 81 #[.pointer (some ⟨b, 0, none⟩), .int .i64 1, .int .i64 x] w (ShutPost w N L b (closerM m x)) := by
  obtain ⟨hok, sv, a, cap, P, h⟩ := h
  have HH := Lib.hid h
  have HS := Lib.hid (SP.same (w := w) ⟨hok, sv, a, cap, P, h⟩ (Fr.refl _ _))
  have HZ := Lib.hid (st_none h)
  obtain ⟨_, _, _, _, _, c5, c6⟩ := h.k.cells
  have k6 := h.k.free 6
  have hok2 := closerM_ok hok x
  by_cases hx : codeM x = false
  · have e : closerM m x = ⟨m, 2⟩ := by unfold closerM; rw [if_pos hx]
    rw [e]
    have hx' : ¬ (1 ≤ x ∧ x ≤ 1000) := fun hh => by rw [codeM_iff.2 hh] at hx; cases hx
    clear h hok hok2 e hx
    by_cases h1 : x < 1
    · clear hx'
      go_enter Try.func81, Try.ntmps81
      go_wp2_with fail
      refine HZ.out.mono ?_
      rintro e w' ⟨rfl, rfl⟩
      go_wp2_with fail
      go_ret
      exact ⟨rfl, HS.out⟩
    · have h2 : 1000 < x := by omega
      have h3 : 1 ≤ x := by omega
      clear h1 hx'
      go_enter Try.func81, Try.ntmps81
      go_wp2_with fail
      refine HZ.out.mono ?_
      rintro e w' ⟨rfl, rfl⟩
      go_wp2_with fail
      go_ret
      exact ⟨rfl, HS.out⟩
  obtain ⟨x1, x2⟩ := codeM_iff.1 (show codeM x = true from by simpa using hx)
  by_cases hw : m.r ≠ 0
  · have e : closerM m x = ⟨m, 14⟩ := by unfold closerM; rw [if_neg hx, if_pos hw]
    rw [e]
    obtain ⟨n1, n2⟩ : (m.r == 0) = false ∧ (m.r != 0) = true := by simp [hw]
    clear h hok hok2 e hx hw
    go_enter Try.func81, Try.ntmps81
    go_wp2_with fail
    refine HZ.out.mono ?_
    rintro e w' ⟨rfl, rfl⟩
    go_wp2_with fail
    go_ret
    exact ⟨rfl, HS.out⟩
  · have e : closerM m x = ⟨{ m with r := x, q := [] }, 0⟩ := by unfold closerM; rw [if_neg hx, if_neg hw]
    have hw' : m.r = 0 := by omega
    rw [e] at hok2 ⊢
    rw [hw'] at c6
    have HK := Lib.hid hok2
    obtain ⟨w1, hw1, f1, h1⟩ : ∃ W, w.setCell ⟨b, 6, none⟩ (.int .i64 x) = W ∧ Fr [b] w W ∧ StR W N L b { m with r := x } sv a cap P := ⟨_, rfl, (Fr.refl _ _).setCell (.inl (by simp)) _, h.k.rd _, h.s.keep ((Fr.refl [b] _).setCell (.inl (by simp)) _) (fun y hy hm => by simp at hm; subst hm; exact h.bl hy), h.p.keep ((Fr.refl [b] _).setCell (.inl (by simp)) _) (fun y hy => by simp at hy; subst hy; exact h.nb), h.e, h.nb, h.nl, h.bl⟩
    have hmk : ∀ w : World, (Instr.makeMap 163 none).run Try.prog w = .ok (.map (some w.heap.size)) (w.alloc (.map #[] 0)) := fun w => run_makeMap _ w
    have hmf : ∀ (fn : Fn) (first cap : Array Value) (w : World), (Instr.makeFunc fn first cap).run Try.prog w = .ok (.func fn first cap) w := fun _ _ _ _ => rfl
    have hq1 : ∀ w : World, (binOp .neq 1 (.func (.func 112) #[.pointer (some ⟨b, 0, none⟩)] #[]) .nilFunc).run Try.prog w = .ok (.bool true) w := fun w => by kernel_rfl
    obtain ⟨w2, hin, hget, _, f2⟩ := map_made (w := w1) (.func (.func 112) #[.pointer (some ⟨b, 0, none⟩)] #[])
    replace hin := hin _ rfl
    have HD := Lib.hid (st_drop (h1.keep0 f2))
    have HF := Lib.hid (And.intro f1 f2)
    have hs1 := f1.size
    have hs2 := f2.size
    clear h hok hok2 e hx hw hw' h1 f1 f2
    go_enter Try.func81, Try.ntmps81
    go_wp2_with fail
    refine HZ.out.mono ?_
    rintro e w' ⟨rfl, rfl⟩
    go_wp2_with fail
    refine HD.out.mono ?_
    rintro e w3 ⟨rfl, f3, sv3, L3, hL3, h3⟩
    clear HD hget hin hw1
    go_wp2_with fail
    go_ret
    obtain ⟨f1, f2⟩ := HF.out
    exact ⟨rfl, ((f1.then0 f2).then f3).mono (by simp), _, L3, fun _ hx => .inl hx.1, fun x hx => .inr (by have := hL3 x hx; omega), HK.out, _, _, _, _, h3⟩
theorem st_closew (h : St w N L b m) (x : Int) :
    Calls Try.prog 36 #[.pointer (some ⟨b, 0, none⟩), .int .i64 x] w (ShutPost w N L b (closewM m x)) := by
  have HS := Lib.hid (shut_w h x)
  clear h
  go_enter Try.func36, Try.ntmps36
  go_wp2_with fail
  refine HS.out.mono ?_
  rintro e w' ⟨rfl, h⟩
  go_wp2_with fail
  go_ret
  exact ⟨rfl, h⟩
theorem st_closer (h : St w N L b m) (x : Int) :
    Calls Try.prog 40 #[.pointer (some ⟨b, 0, none⟩), .int .i64 x] w (ShutPost w N L b (closerM m x)) := by
  have HS := Lib.hid (shut_r h x)
  clear h
  go_enter Try.func40, Try.ntmps40
  go_wp2_with fail
  refine HS.out.mono ?_
  rintro e w' ⟨rfl, h⟩
  go_wp2_with fail
  go_ret
  exact ⟨rfl, h⟩
end
end Go.Proofs.Ytdoamelhclnphaa
