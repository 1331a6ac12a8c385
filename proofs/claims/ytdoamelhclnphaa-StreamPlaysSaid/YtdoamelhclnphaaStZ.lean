/-
  Package stream: Copy; all calls at nil and zero streams.
-/
import Derived.Test.YtdoamelhclnphaaStOpD
namespace Go.Proofs.Ytdoamelhclnphaa
open Go.RowKit
set_option maxRecDepth 100000

section
variable {w : World} {N : Nat → Prop} {L : List Nat} {b : Nat} {m : SM}
set_option maxHeartbeats 1000000 in
theorem st_copy (h : St w N L b m) :
    Calls Try.prog 43 #[.pointer (some ⟨b, 0, none⟩)] w fun e w' => ∃ b' L', e = .returned (.pointer (some ⟨b', 0, none⟩)) ∧ Fr [] w w' ∧ w.heap.size ≤ b' ∧ (∀ x ∈ L', w.heap.size ≤ x) ∧ St w' (fun x => N x ∧ x < w.heap.size) L' b' m := by
  obtain ⟨hok, sv, a, cap, P, h⟩ := h
  obtain ⟨st, su, rfl⟩ := h.s.form
  have HH := Lib.hid h
  have HK := Lib.hid hok
  have HZ := Lib.hid (st_none h)
  obtain ⟨c0, c1, c2, c3, c4, c5, c6⟩ := h.k.cells
  obtain ⟨w0, hw0, f0, q0⟩ : ∃ W, w.alloc (.cells #[.iface st su, .bool m.busy, .slice a P.length cap, .int .i64 (tot P), .int .i64 m.acc, .int .i64 m.w, .int .i64 m.r] 78) = W ∧ Fr [] w W ∧ StB W w.heap.size (.iface st su) m.busy a P.length cap (tot P) m.acc m.w m.r := ⟨_, rfl, (Fr.refl _ _).alloc _, newA rfl⟩
  have h0 := h.keep0 f0
  have d0 : w0.cell? ⟨b, 0, none⟩ = some (.iface st su) := h0.k.cells.c0
  obtain ⟨f, rv, hm, he, hc⟩ := (sto_again h0.s).at_
  simp [go_sem] at hm
  have HC := Lib.hid hc
  have HQ := Lib.hid q0
  have HF0 := Lib.hid f0
  have hz0 := lt_of_heap q0
  clear h hok hc h0 q0 f0
  go_enter Try.func43, Try.ntmps43
  go_wp2_with fail
  refine HZ.out.mono ?_
  rintro e w' ⟨rfl, rfl⟩
  go_wp2_with fail
  refine HC.out.mono ?_
  rintro e w2 ⟨t2, u2, L2, rfl, f2, hL2, hs2⟩
  have q2 : StB w2 w.heap.size _ _ _ _ _ _ _ _ _ := f2.keep HQ.out (by simp)
  have k0 := q2.cells.c0
  have k0f := q2.free 0
  have HS := Lib.hid (And.intro hL2 hs2)
  have HQ2 := Lib.hid q2
  have hs1 := HF0.out.size
  clear HC hm he hw0 d0 c0 c1 c2 c3 c4 c5 c6 HZ HQ hL2 hs2 q2
  go_wp2_with fail
  go_ret
  have fb : Fr [w.heap.size] w2 (w2.setCell ⟨w.heap.size, 0, none⟩ (.iface t2 u2)) := (Fr.refl _ _).setCell (.inl (by simp)) _
  obtain ⟨hL2, hs2⟩ := HS.out
  have hbl := lt_of_heap HH.out.k
  refine ⟨w.heap.size, L2, rfl, (HF0.out.then0 f2).trans fb (by simp) (fun x hx => .inr (by simp at hx; omega)), Nat.le_refl _, fun x hx => Nat.le_trans hs1 (hL2 x hx), HK.out, .iface t2 u2, a, cap, P, HQ2.out.sto _, hs2.keep fb (fun x hx hm => by simp at hm; subst hm; have := hL2 _ hx; omega), ((HH.out.p.there.keep HF0.out (by simp)).keep f2 (by simp)).keep fb (fun x hx hn => by simp at hx; subst hx; have := hn.2; omega), HH.out.e, fun hn => by have := hn.2; omega, fun x hx hn => by have := hL2 x hx; have := hn.2; omega, fun hm => by have := hL2 _ hm; omega⟩
end
theorem zprogress {w : World} {r : Option Addr} (h : Zst w r) :
    Calls Try.prog 31 #[.pointer r] w fun e w' => e = .returned (.tuple #[.int .i64 0, .bool false]) ∧ w = w' := by
  have HZ := Lib.hid (none_z h)
  clear h
  go_enter Try.func31, Try.ntmps31
  go_wp2_with fail
  refine HZ.out.mono ?_
  rintro e w' ⟨rfl, rfl⟩
  go_wp2_with fail
  go_ret2
  exact ⟨rfl, rfl⟩
theorem zend {w : World} {r : Option Addr} (h : Zst w r) :
    Calls Try.prog 33 #[.pointer r] w fun e w' => e = .returned (.tuple #[.int .i64 0, .int .i64 1]) ∧ w = w' := by
  have HZ := Lib.hid (none_z h)
  clear h
  go_enter Try.func33, Try.ntmps33
  go_wp2_with fail
  refine HZ.out.mono ?_
  rintro e w' ⟨rfl, rfl⟩
  go_wp2_with fail
  go_ret2
  exact ⟨rfl, rfl⟩
theorem zcancel {w : World} {r : Option Addr} (h : Zst w r) :
    Calls Try.prog 34 #[.pointer r] w fun e w' => e = .returned (.tuple #[.int .i64 0, .int .i64 1]) ∧ w = w' := by
  have HZ := Lib.hid (none_z h)
  clear h
  go_enter Try.func34, Try.ntmps34
  go_wp2_with fail
  refine HZ.out.mono ?_
  rintro e w' ⟨rfl, rfl⟩
  go_wp2_with fail
  go_ret2
  exact ⟨rfl, rfl⟩
theorem zread {w : World} {r : Option Addr} (h : Zst w r) (n : Int) :
    Calls Try.prog 35 #[.pointer r, .int .i64 n] w fun e w' => e = .returned (.tuple #[.slice none 0 0, .int .i64 1]) ∧ w = w' := by
  have HZ := Lib.hid (none_z h)
  clear h
  go_enter Try.func35, Try.ntmps35
  go_wp2_with fail
  refine HZ.out.mono ?_
  rintro e w' ⟨rfl, rfl⟩
  go_wp2_with fail
  go_ret2
  exact ⟨rfl, rfl⟩
theorem zshut {w : World} {r : Option Addr} (h : Zst w r) (k n : Int) :
    Calls Try.prog 81 #[.pointer r, .int .i64 k, .int .i64 n] w fun e w' => e = .returned (.int .i64 1) ∧ w = w' := by
  have HZ := Lib.hid (none_z h)
  clear h
  go_enter Try.func81, Try.ntmps81
  go_wp2_with fail
  refine HZ.out.mono ?_
  rintro e w' ⟨rfl, rfl⟩
  go_wp2_with fail
  go_ret
  exact ⟨rfl, rfl⟩
theorem zcopy {w : World} {r : Option Addr} (h : Zst w r) :
    Calls Try.prog 43 #[.pointer r] w fun e w' => e = .returned (.pointer none) ∧ w = w' := by
  have HZ := Lib.hid (none_z h)
  clear h
  go_enter Try.func43, Try.ntmps43
  go_wp2_with fail
  refine HZ.out.mono ?_
  rintro e w' ⟨rfl, rfl⟩
  go_wp2_with fail
  go_ret
  exact ⟨rfl, rfl⟩
theorem zclosew {w : World} {r : Option Addr} (h : Zst w r) (n : Int) : Calls Try.prog 36 #[.pointer r, .int .i64 n] w fun e w' => e = .returned (.int .i64 1) ∧ w = w' := by
  have HZ := Lib.hid (zshut h 0 n)
  clear h
  go_enter Try.func36, Try.ntmps36
  go_wp2_with fail
  refine HZ.out.mono ?_
  rintro e w' ⟨rfl, rfl⟩
  go_wp2_with fail
  go_ret
  exact ⟨rfl, rfl⟩
theorem zcloser {w : World} {r : Option Addr} (h : Zst w r) (n : Int) : Calls Try.prog 40 #[.pointer r, .int .i64 n] w fun e w' => e = .returned (.int .i64 1) ∧ w = w' := by
  have HZ := Lib.hid (zshut h 1 n)
  clear h
  go_enter Try.func40, Try.ntmps40
  go_wp2_with fail
  refine HZ.out.mono ?_
  rintro e w' ⟨rfl, rfl⟩
  go_wp2_with fail
  go_ret
  exact ⟨rfl, rfl⟩
theorem zbegin {w : World} {r : Option Addr} (h : Zst w r) (a : Option Addr) (len cap : Nat) (n : Int) : Calls Try.prog 29 #[.pointer r, .agg #[.slice a len cap, .int .i64 n]] w fun e w' => e = .returned (.int .i64 1) ∧ Fr [] w w' := by
  have HZ := Lib.hid fun o => none_z (h.keep ((Fr.refl [] w).alloc o))
  clear h
  go_enter Try.func29, Try.ntmps29
  go_wp2_with fail
  refine (HZ.out _).mono ?_
  rintro e w' ⟨rfl, rfl⟩
  go_wp2_with fail
  go_ret
  exact ⟨rfl, (Fr.refl _ _).alloc _⟩
theorem zstate {w : World} {r : Option Addr} (h : Zst w r) : Calls Try.prog 42 #[.pointer r] w fun e w' => e = .returned (.agg #[.int .i64 0, .slice none 0 0, .bool false, .slice none 0 0, .int .i64 0, .int .i64 0, .int .i64 0]) ∧ Fr [] w w' := by
  obtain ⟨w0, hw0, f0, q0⟩ : ∃ W, w.alloc (.cells #[.int .i64 0, .slice none 0 0, .bool false, .slice none 0 0, .int .i64 0, .int .i64 0, .int .i64 0] 41) = W ∧ Fr [] w W ∧ W.heap[w.heap.size]? = some (.cells #[.int .i64 0, .slice none 0 0, .bool false, .slice none 0 0, .int .i64 0, .int .i64 0, .int .i64 0] 41 (0, 0)) := ⟨_, rfl, (Fr.refl _ _).alloc _, newA rfl⟩
  have HZ := Lib.hid (none_z (h.keep f0))
  clear h
  go_enter Try.func42, Try.ntmps42
  go_wp2_with fail
  refine HZ.out.mono ?_
  rintro e w' ⟨rfl, rfl⟩
  go_wp2_with (refine wpList_store_row rfl 41 (.tmp 2) (.tmp 5) rfl w.heap.size #[.int .i64 0, .slice none 0 0, .bool false, .slice none 0 0, .int .i64 0, .int .i64 0, .int .i64 0] (by rfl) (by rfl) _ _ q0 (by kernel_rfl) rfl (by simp [Value.oneCell']) ?_)
  have hq := setRow_heap w0 w.heap.size _ #[.int .i64 0, .slice none 0 0, .bool false, .slice none 0 0, .int .i64 0, .int .i64 0, .int .i64 0] _ _ q0
  refine bodyPost_ret (results_cell_row rfl _ _ w.heap.size _ #[.int .i64 0, .slice none 0 0, .bool false, .slice none 0 0, .int .i64 0, .int .i64 0, .int .i64 0] (0, 0) _ (by rfl) hq Try.underlying41 rfl (by kernel_rfl)) rfl ?_
  exact ⟨rfl, f0.trans setRow_fr' (by simp) (fun x hx => .inr (by simp at hx; omega))⟩
end Go.Proofs.Ytdoamelhclnphaa
