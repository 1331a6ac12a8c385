/-
  Package stream: Read, Copy.
-/
import Derived.Test.YtdoamelhclnphaaStOpC
import Derived.Test.YtdoamelhclnphaaStHoldL
namespace Go.Proofs.Ytdoamelhclnphaa
open Go.RowKit
set_option maxRecDepth 100000

theorem take_ne {l : List UInt8} (h : l ≠ []) {k : Nat} (hk : 0 < k) : l.take k ≠ [] := by
  cases l with
  | nil => exact absurd rfl h
  | cons a l =>
    obtain ⟨j, rfl⟩ : ∃ j, k = j + 1 := ⟨k - 1, by omega⟩
    simp
theorem read_A {m : SM} (h : SOk m) (hb : m.busy = true) (hw : m.w = 0) (hr : m.r = 0) {n : Int} (h1 : 0 < n) (h2 : n ≤ 65536) :
    readM m n = ⟨fillM { takeM m n.toNat with acc := m.acc + (takeN m n.toNat : Nat) }, takeO m n.toNat, if takeO m n.toNat = [] then 16 else 0⟩ := by
  have hn : ¬ (n < 0 ∨ 65536 < n) := by omega
  have hn0 : n.toNat ≠ 0 := by omega
  have hid := fillM_id h
  have hok := readM_ok h n
  unfold readM at hok ⊢
  rw [if_neg hn, if_neg (by simp [hr]), if_neg (by omega)] at hok ⊢
  unfold takeM takeO takeN
  by_cases hc : m.c = 0
  · have hq : m.q = [] := List.eq_nil_of_length_eq_zero (by have := h.q1; omega)
    rw [if_pos hc, if_pos hc, if_pos hc]
    rw [if_neg (by simp [hq])] at hok ⊢
    by_cases hrs : m.rest = []
    · rw [if_neg (by simp [hrs]), if_neg (by simp [hw])]
      have e : ({ m with rest := m.rest.drop n.toNat, acc := m.acc + ((min n.toNat m.rest.length : Nat) : Int) } : SM) = m := by
        rw [hrs]
        simp
        obtain ⟨c, q, busy, rest, acc, w, r⟩ := m
        dsimp only at *
        rw [hrs]
      rw [e, hid, hrs]
      simp
    · rw [if_pos ⟨hc, hb, hw, hrs⟩] at hok ⊢
      rw [fillM_id hok, if_neg (take_ne hrs (by omega))]
  · rw [if_neg hc, if_neg hc, if_neg hc]
    have e0 : ({ ({ m with q := m.q.drop n.toNat } : SM) with acc := m.acc + ((0 : Nat) : Int) } : SM) = { m with q := m.q.drop n.toNat } := by simp
    rw [e0]
    by_cases hq : m.q = []
    · rw [if_neg (by simp [hq]), if_neg (by simp [hc]), if_neg (by simp [hw])]
      have e : ({ m with q := m.q.drop n.toNat } : SM) = m := by
        obtain ⟨c, q, busy, rest, acc, w, r⟩ := m
        dsimp only at *
        rw [hq]
        simp
      rw [e, hid, hq]
      simp
    · rw [if_pos hq, if_neg (take_ne hq (by omega))]
theorem read_B {m : SM} (h : SOk m) (hbw : ¬ (m.busy = true ∧ m.w = 0)) (hr : m.r = 0) {n : Int} (h1 : 0 < n) (h2 : n ≤ 65536) :
    readM m n = ⟨fillM (takeM0 m n.toNat), m.q.take n.toNat, if m.q.take n.toNat = [] then (if m.w ≠ 0 then m.w else 16) else 0⟩ := by
  have hn : ¬ (n < 0 ∨ 65536 < n) := by omega
  have hn0 : n.toNat ≠ 0 := by omega
  rw [show takeM0 m n.toNat = { m with q := m.q.drop n.toNat } from rfl]
  unfold readM
  rw [if_neg hn, if_neg (by simp [hr]), if_neg (by omega)]
  by_cases hq : m.q = []
  · rw [if_neg (by simp [hq]), if_neg (by rintro ⟨_, h3, h4, _⟩; exact hbw ⟨h3, h4⟩)]
    have e : ({ m with q := m.q.drop n.toNat } : SM) = m := by
      obtain ⟨c, q, busy, rest, acc, w, r⟩ := m
      dsimp only at *
      rw [hq]
      simp
    rw [e, fillM_id h, hq, List.take_nil, if_pos rfl]
    split <;> rfl
  · rw [if_pos hq, if_neg (take_ne hq (by omega))]
theorem take_acc (m : SM) (k : Nat) : (takeM m k).acc = m.acc := by unfold takeM; split <;> rfl
theorem take_w (m : SM) (k : Nat) : (takeM m k).w = m.w := by unfold takeM; split <;> rfl

section
variable {w : World} {N : Nat → Prop} {L : List Nat} {b : Nat} {m : SM}
theorem StR.there0 {sv : Value} {a : Option Addr} {cap : Nat} {P : Parts} (h1 : StR w N L b m sv a cap P) : StR w (fun x => N x ∧ x < w.heap.size) L b m sv a cap P :=
  ⟨h1.k, h1.s, h1.p.there, h1.e, fun h => h1.nb h.1, fun x hx h => h1.nl x hx h.1, h1.bl⟩
def ReadPost (w : World) (N : Nat → Prop) (L : List Nat) (b : Nat) (r : SR) (e : Ending) (w' : World) : Prop :=
  ∃ u, e = .returned (.tuple #[u, .int .i64 r.err]) ∧ Fr (b :: L) w w' ∧ Ow w' w.heap.size 5 u ((bi r.out).map (Value.int .u8)) ∧ ∃ N' : Nat → Prop, (∀ x, N' x → (N x ∨ w.heap.size ≤ x) ∧ u.ownBlock ≠ some x) ∧ St w' N' L b r.m
set_option maxHeartbeats 4000000 in
theorem st_read (h : St w N L b m) (n : Int) :
    Calls Try.prog 35 #[.pointer (some ⟨b, 0, none⟩), .int .i64 n] w (ReadPost w N L b (readM m n)) := by
  obtain ⟨hok, sv, a, cap, P, h⟩ := h
  obtain ⟨st, su, rfl⟩ := h.s.form
  have HH := Lib.hid h
  have HK := Lib.hid hok
  have HZ := Lib.hid (st_none h)
  obtain ⟨c0, c1, c2, c3, c4, c5, c6⟩ := h.k.cells
  have plain : ∀ k : Int, readM m n = ⟨m, [], k⟩ → (Calls Try.prog 35 #[.pointer (some ⟨b, 0, none⟩), .int .i64 n] w fun e w' => e = .returned (.tuple #[.slice none 0 0, .int .i64 k]) ∧ Fr [] w w') →
      Calls Try.prog 35 #[.pointer (some ⟨b, 0, none⟩), .int .i64 n] w (ReadPost w N L b (readM m n)) := fun k e hc => by
    rw [e]
    exact hc.mono fun e w' ⟨he, hf⟩ => ⟨_, he, hf.mono (by simp), Ow.nil _ _ _, N, fun x hx => ⟨.inl hx, by simp [Value.ownBlock]⟩, hok, _, _, _, _, h.keep0 hf⟩
  clear h
  by_cases h1 : n < 0
  · refine plain 2 (by unfold readM; rw [if_pos (.inl h1)]) ?_
    clear plain hok
    go_enter Try.func35, Try.ntmps35
    go_wp2_with fail
    refine HZ.out.mono ?_
    rintro e w' ⟨rfl, rfl⟩
    go_wp2_with fail
    go_ret2
    exact ⟨rfl, Fr.refl _ _⟩
  by_cases h2 : 65536 < n
  · have h1' : 0 ≤ n := by omega
    clear h1
    refine plain 2 (by unfold readM; rw [if_pos (.inr h2)]) ?_
    clear plain hok
    go_enter Try.func35, Try.ntmps35
    go_wp2_with fail
    refine HZ.out.mono ?_
    rintro e w' ⟨rfl, rfl⟩
    go_wp2_with fail
    go_ret2
    exact ⟨rfl, Fr.refl _ _⟩
  have h1' : 0 ≤ n := by omega
  have h2' : n ≤ 65536 := by omega
  by_cases h3 : m.r ≠ 0
  · obtain ⟨n1, n2⟩ : (m.r == 0) = false ∧ (m.r != 0) = true := by simp [h3]
    refine plain 14 (by unfold readM; rw [if_neg (by omega), if_pos h3]) ?_
    clear plain hok
    go_enter Try.func35, Try.ntmps35
    go_wp2_with fail
    refine HZ.out.mono ?_
    rintro e w' ⟨rfl, rfl⟩
    go_wp2_with fail
    go_ret2
    exact ⟨rfl, Fr.refl _ _⟩
  replace h3 : m.r = 0 := by omega
  rw [h3] at c6
  by_cases h4 : n = 0
  · subst h4
    refine plain 0 (by unfold readM; rw [if_neg (by omega), if_neg (by simp [h3]), if_pos rfl]) ?_
    clear plain hok
    go_enter Try.func35, Try.ntmps35
    go_wp2_with fail
    refine HZ.out.mono ?_
    rintro e w' ⟨rfl, rfl⟩
    go_wp2_with fail
    go_ret2
    exact ⟨rfl, Fr.refl _ _⟩
  have hn0 : (n == 0) = false := by simpa using h4
  have hp : 0 < n := by omega
  have hbl := lt_of_heap HH.out.k
  clear plain c4
  have hwk0 : wrap64 (m.acc + ((0 : Nat) : Int)) = m.acc + ((0 : Nat) : Int) := IntWalk.wrap64_in _ (by have := hok.a0; have := hok.sum; omega)
  have hbd0 : 0 ≤ m.acc + ((0 : Nat) : Int) ∧ m.acc + ((0 : Nat) : Int) ≤ 65536 := by have := hok.a0; have := hok.sum; omega
  by_cases hA : m.busy = true ∧ m.w = 0
  · obtain ⟨hb, hmw⟩ := hA
    rw [read_A hok hb hmw h3 hp h2']
    rw [hb] at c1
    have HO := Lib.hid (st_open HH.out)
    have hop : opM m = true := by unfold opM; rw [hmw, h3]; rfl
    rw [hop] at HO
    obtain ⟨f, rv, hm, he, hc⟩ := (sto_take HH.out h1').at_
    simp [go_sem] at hm
    have HC := Lib.hid hc
    have hKK : takeN m n.toNat ≤ m.rest.length := by unfold takeN; split <;> omega
    have hwk : wrap64 (m.acc + ((takeN m n.toNat : Nat) : Int)) = m.acc + ((takeN m n.toNat : Nat) : Int) := IntWalk.wrap64_in _ (by have := hok.a0; have := hok.sum; omega)
    have hbd : 0 ≤ m.acc + ((takeN m n.toNat : Nat) : Int) ∧ m.acc + ((takeN m n.toNat : Nat) : Int) ≤ 65536 := by have := hok.a0; have := hok.sum; omega
    have hacc := take_acc m n.toNat
    have htw := take_w m n.toNat
    rw [hmw] at htw
    have hok2 := readM_ok hok n
    rw [read_A hok hb hmw h3 hp h2'] at hok2
    have HK2 := Lib.hid hok2
    have HB := Lib.hid (And.intro hacc (And.intro hbd hwk))
    have HTW := Lib.hid htw
    have HWL := Lib.hid HH.out.lts.2.1
    rw [hmw] at c5
    clear hc hok hop hb hmw hok2 h3 h4 h2 hKK hwk hbd hacc hwk0 hbd0 htw
    generalize takeO m n.toNat = out at *
    generalize takeM m n.toNat = M2 at *
    generalize takeN m n.toNat = kk at *
    generalize hE : (if out = [] then (16 : Int) else 0) = E
    have HE := Lib.hid hE
    clear hE
    go_enter Try.func35, Try.ntmps35
    go_wp2_with fail
    refine HZ.out.mono ?_
    rintro e w' ⟨rfl, rfl⟩
    go_wp2_with fail
    refine HO.out.mono ?_
    rintro e w' ⟨rfl, rfl⟩
    go_wp2_with fail
    refine HC.out.mono ?_
    rintro e w2 ⟨Z, u, a', cap', P', rfl, f2, hZ, ou, h2⟩
    clear HC hm he HZ c0 c1 c2 c3 c5 c6 HO
    obtain ⟨hacc, hbd, hwk⟩ := HB.out
    obtain ⟨N2, hN2, h2⟩ : ∃ N2 : Nat → Prop, (∀ x, N2 x → (N x ∨ w.heap.size ≤ x) ∧ x < Z) ∧ StR w2 N2 L b M2 (.iface st su) a' cap' P' := ⟨_, fun x hx => ⟨(by rcases hx.1 with h | h; exact .inl (by first | exact h | exact h.1); exact .inr (by omega)), hx.2⟩, h2⟩
    have HN2 := Lib.hid hN2
    clear hN2
    obtain ⟨hl1, hl2, _, _⟩ := h2.lts
    have k4 := h2.k.cells.c4
    have k4f := h2.k.free 4
    rw [hacc] at k4
    obtain ⟨ga, gc, rfl, _⟩ := ou.formB
    have HOU := Lib.hid ou
    have HULT := Lib.hid ou.lt
    obtain ⟨w3, hw3, f3, h3⟩ : ∃ W, w2.setCell ⟨b, 4, none⟩ (.int .i64 (m.acc + (kk : Int))) = W ∧ Fr [b] w2 W ∧ StR W N2 L b { M2 with acc := (m.acc + (kk : Int)) } (.iface st su) a' cap' P' := ⟨_, rfl, (Fr.refl _ _).setCell (.inl (by simp)) _, h2.k.acc _, h2.s.keep ((Fr.refl [b] _).setCell (.inl (by simp)) _) (fun y hy hm => by simp at hm; subst hm; exact h2.bl hy), h2.p.keep ((Fr.refl [b] _).setCell (.inl (by simp)) _) (fun y hy => by simp at hy; subst hy; exact h2.nb), h2.e, h2.nb, h2.nl, h2.bl⟩
    have HR := Lib.hid (st_refill h3 hbd)
    have HLL := Lib.hid hl2
    clear ou h2 h3 hbd hacc hl2
    go_wp2_with fail
    refine HR.out.mono ?_
    rintro e w4 ⟨rfl, f4, a4, cap4, P4, h4⟩
    clear HR hw3 k4 k4f hwk
    have k5 := h4.k.cells.c5
    rw [fill_w] at k5
    try dsimp only at k5
    rw [HTW.out] at k5
    have HFF := Lib.hid (And.intro f2 (And.intro f3 f4))
    have hs2 := f2.size
    have hs3 := f3.size
    have hs4 := f4.size
    have HH4 := Lib.hid h4
    clear h4 f2 f3 f4
    by_cases hout : out = []
    · have hlen : out.length = 0 := by rw [hout]; rfl
      have HLE := Lib.hid hlen
      have HOT := Lib.hid hout
      rw [hlen]
      clear hout hlen
      go_wp2_with fail
      go_ret2
      obtain ⟨f2, f3, f4'⟩ := HFF.out
      have f4 := f4'
      have HH5 := HH4.out
      unfold ReadPost
      dsimp only
      have hE := HE.out
      rw [if_pos HOT.out] at hE
      rw [← hE]
      refine ⟨.slice none 0 0, rfl, (f2.then (f3.mono (by simp))).then f4, by rw [HOT.out]; exact Ow.nil _ _ _, _, fun x hx => ⟨?_, by simp [Value.ownBlock]⟩, HK2.out, _, _, _, _, HH5⟩
      rcases hx with hx | hx
      · exact (HN2.out x hx).1
      · exact .inr (by omega)
    · have hlen : (0 : Int) < out.length := by have := List.length_pos_iff.2 hout; omega
      have HOT := Lib.hid hout
      clear hout
      go_wp2_with fail
      go_ret2
      obtain ⟨f2, f3, f4'⟩ := HFF.out
      have f4 := f4'
      have HH5 := HH4.out
      unfold ReadPost
      dsimp only
      have hE := HE.out
      rw [if_neg HOT.out] at hE
      rw [← hE]
      have hne : ∀ k, (Value.slice ga out.length gc).ownBlock = some k → k ∉ b :: L := fun k e hm => by
        have h5 := (HULT.out k e).1
        simp at hm
        rcases hm with rfl | hm
        · omega
        · have := HWL.out k hm; omega
      refine ⟨_, rfl, (f2.then (f3.mono (by simp))).then f4, ((HOU.out.keep f3 (fun k e hm => hne k e (by simp at hm; simp [hm]))).keep f4 hne).mono (by omega), _, fun x hx => ?_, HK2.out, _, _, _, _, HH5⟩
      rcases hx with hx | hx
      · exact ⟨(HN2.out x hx).1, fun e => by have := (HULT.out x e).1; have := (HN2.out x hx).2; omega⟩
      · exact ⟨.inr (by omega), fun e => by have := (HULT.out x e).2; omega⟩
  · have hok2 := readM_ok hok n
    rw [read_B hok hA h3 hp h2'] at hok2 ⊢
    have HK2 := Lib.hid hok2
    have hacc : (takeM0 m n.toNat).acc = m.acc := rfl
    have htw : (takeM0 m n.toNat).w = m.w := rfl
    obtain ⟨w0, hw0, f0, q0⟩ : ∃ W, w.alloc (.cells #[.slice none 0 0, .int .i64 0] 57) = W ∧ Fr [] w W ∧ W.heap[w.heap.size]? = some (.cells #[.slice none 0 0, .int .i64 0] 57 (0, 0)) := ⟨_, rfl, (Fr.refl _ _).alloc _, newA rfl⟩
    have HWL := Lib.hid HH.out.lts.2.1
    have h0 := (HH.out.there0).keep0 f0
    obtain ⟨f, rv, hm, he, hc⟩ := (sto_take0 h0 h1' q0 (by omega) (fun hm => by have := HWL.out _ hm; omega) (fun hn => by have := hn.2; omega)).at_
    simp [go_sem] at hm
    have HC := Lib.hid hc
    have d0 : w0.cell? ⟨b, 0, none⟩ = some (.iface st su) := h0.k.cells.c0
    have hs0 := f0.size
    have hz0 := lt_of_heap q0
    have HBB := Lib.hid (show ∀ w4, Fr (w.heap.size :: b :: L) w0 w4 → Fr (b :: L) w w4 from fun w4 f => f0.trans f (by simp) (fun x hx => by simp at hx ⊢; rcases hx with rfl | hx; exact .inr (Nat.le_refl _); exact .inl hx))
    have hwk : wrap64 m.acc = m.acc := by simpa using hwk0
    have hbd : 0 ≤ m.acc ∧ m.acc ≤ 65536 := by simpa using hbd0
    have HB := Lib.hid (And.intro hacc (And.intro hbd hwk))
    have HTW := Lib.hid htw
    generalize hout : m.q.take n.toNat = out at *
    have HOO := Lib.hid hout
    generalize hE : (if out = [] then (if m.w ≠ 0 then m.w else 16) else 0) = E at *
    have HE := Lib.hid hE
    have HO := Lib.hid (st_open HH.out)
    by_cases hb : m.busy = true
    · have hmw : m.w ≠ 0 := fun h => hA ⟨hb, h⟩
      have hop : opM m = false := by unfold opM; simp [hmw]
      rw [hop] at HO
      rw [hb] at c1
      have HMW := Lib.hid hmw
      obtain ⟨n1, n2⟩ : (m.w == 0) = false ∧ (m.w != 0) = true := by simp [hmw]
      clear hc hok hop hb hmw hok2 h3 h4 h2 hwk0 hbd0 htw hout hE hA hacc hwk hbd h0 q0 f0
      generalize hM2 : takeM0 m n.toNat = M2 at *
      have HM2 := Lib.hid hM2
      clear hM2
      go_enter Try.func35, Try.ntmps35
      go_wp2_with fail
      refine HZ.out.mono ?_
      rintro e w' ⟨rfl, rfl⟩
      go_wp2_with fail
      refine HO.out.mono ?_
      rintro e w' ⟨rfl, rfl⟩
      go_wp2_with fail
      refine HC.out.mono ?_
      rintro e w2 ⟨Z, u, a', cap', P', rfl, f2, hZ, ou, h2⟩
      clear HC hm he HZ c0 c1 c2 c3 c5 c6 HO d0
      obtain ⟨hacc, hbd, hwk⟩ := HB.out
      obtain ⟨N2, hN2, h2⟩ : ∃ N2 : Nat → Prop, (∀ x, N2 x → (N x ∨ w.heap.size ≤ x) ∧ x < Z) ∧ StR w2 N2 L b M2 (.iface st su) a' cap' P' := ⟨_, fun x hx => ⟨(by rcases hx.1 with h | h; exact .inl (by first | exact h | exact h.1); exact .inr (by omega)), hx.2⟩, h2⟩
      have HN2 := Lib.hid hN2
      clear hN2
      obtain ⟨hl1, hl2, _, _⟩ := h2.lts
      have k4 := h2.k.cells.c4
      have k4f := h2.k.free 4
      rw [hacc] at k4
      obtain ⟨ga, gc, rfl, _⟩ := ou.formB
      have HOU := Lib.hid ou
      have HULT := Lib.hid ou.lt
      obtain ⟨w3, hw3, f3, h3⟩ : ∃ W, w2.setCell ⟨b, 4, none⟩ (.int .i64 m.acc) = W ∧ Fr [b] w2 W ∧ StR W N2 L b { M2 with acc := m.acc } (.iface st su) a' cap' P' := ⟨_, rfl, (Fr.refl _ _).setCell (.inl (by simp)) _, h2.k.acc _, h2.s.keep ((Fr.refl [b] _).setCell (.inl (by simp)) _) (fun y hy hm => by simp at hm; subst hm; exact h2.bl hy), h2.p.keep ((Fr.refl [b] _).setCell (.inl (by simp)) _) (fun y hy => by simp at hy; subst hy; exact h2.nb), h2.e, h2.nb, h2.nl, h2.bl⟩
      have hme : ({ M2 with acc := m.acc } : SM) = M2 := by rw [← hacc]
      rw [hme] at h3
      have HR := Lib.hid (st_refill h3 (by rw [hacc]; exact hbd))
      clear hme
      have HLL := Lib.hid hl2
      clear ou h2 h3 hbd hacc hl2
      go_wp2_with fail
      refine HR.out.mono ?_
      rintro e w4 ⟨rfl, f4, a4, cap4, P4, h4⟩
      clear HR hw3 k4 k4f hwk
      have k5 := h4.k.cells.c5
      rw [fill_w] at k5
      try dsimp only at k5
      rw [HTW.out] at k5
      have HFF := Lib.hid (And.intro f2 (And.intro f3 f4))
      have hs2 := f2.size
      have hs3 := f3.size
      have hs4 := f4.size
      have HH4 := Lib.hid h4
      clear h4 f2 f3 f4
      by_cases hout : out = []
      · have hlen : out.length = 0 := by rw [hout]; rfl
        have HLE := Lib.hid hlen
        have HOT := Lib.hid hout
        rw [hlen]
        clear hout hlen
        go_wp2_with fail
        go_quiet (fail)
        go_wp2_with fail
        go_ret2
        obtain ⟨f2, f3, f4'⟩ := HFF.out
        have f4 := f4'.drewN nq
        have HH5 := HH4.out.keep0 ((Fr.refl _ _).drewN nq)
        unfold ReadPost
        dsimp only
        have hE := HE.out
        rw [if_pos HOT.out] at hE
        rw [if_pos HMW.out] at hE
        rw [← hE]
        refine ⟨.slice none 0 0, rfl, HBB.out _ (((f2.then (f3.mono (by simp))).then (f4.mono (fun x hx => .inl (List.mem_cons_of_mem _ hx))))), by rw [HOT.out]; exact Ow.nil _ _ _, _, fun x hx => ⟨?_, by simp [Value.ownBlock]⟩, HK2.out, _, _, _, _, HH5⟩
        rcases hx with hx | hx
        · exact (HN2.out x hx).1
        · exact .inr (by omega)
      · have hlen : (0 : Int) < out.length := by have := List.length_pos_iff.2 hout; omega
        have HOT := Lib.hid hout
        clear hout
        go_wp2_with fail
        go_ret2
        obtain ⟨f2, f3, f4'⟩ := HFF.out
        have f4 := f4'
        have HH5 := HH4.out
        unfold ReadPost
        dsimp only
        have hE := HE.out
        rw [if_neg HOT.out] at hE
        rw [← hE]
        have hne : ∀ k, (Value.slice ga out.length gc).ownBlock = some k → k ∉ b :: L := fun k e hm => by
          have h5 := (HULT.out k e).1
          simp at hm
          rcases hm with rfl | hm
          · omega
          · have := HWL.out k hm; omega
        refine ⟨_, rfl, HBB.out _ (((f2.then (f3.mono (by simp))).then (f4.mono (fun x hx => .inl (List.mem_cons_of_mem _ hx))))), ((HOU.out.keep f3 (fun k e hm => hne k e (by simp at hm; simp [hm]))).keep f4 hne).mono (by omega), _, fun x hx => ?_, HK2.out, _, _, _, _, HH5⟩
        rcases hx with hx | hx
        · exact ⟨(HN2.out x hx).1, fun e => by have := (HULT.out x e).1; have := (HN2.out x hx).2; omega⟩
        · exact ⟨.inr (by omega), fun e => by have := (HULT.out x e).2; omega⟩
    · have hb' : m.busy = false := by simpa using hb
      rw [hb'] at c1
      by_cases hmw : m.w ≠ 0
      · have HMW := Lib.hid hmw
        obtain ⟨n1, n2⟩ : (m.w == 0) = false ∧ (m.w != 0) = true := by simp [hmw]
        clear hc hok hb hb' hmw hok2 h3 h4 h2 hwk0 hbd0 htw hout hE hA hacc hwk hbd h0 q0 f0 HO
        generalize hM2 : takeM0 m n.toNat = M2 at *
        have HM2 := Lib.hid hM2
        clear hM2
        go_enter Try.func35, Try.ntmps35
        go_wp2_with fail
        refine HZ.out.mono ?_
        rintro e w' ⟨rfl, rfl⟩
        go_wp2_with fail
        refine HC.out.mono ?_
        rintro e w2 ⟨Z, u, a', cap', P', rfl, f2, hZ, ou, h2⟩
        clear HC hm he HZ c0 c1 c2 c3 c5 c6 d0
        obtain ⟨hacc, hbd, hwk⟩ := HB.out
        obtain ⟨N2, hN2, h2⟩ : ∃ N2 : Nat → Prop, (∀ x, N2 x → (N x ∨ w.heap.size ≤ x) ∧ x < Z) ∧ StR w2 N2 L b M2 (.iface st su) a' cap' P' := ⟨_, fun x hx => ⟨(by rcases hx.1 with h | h; exact .inl (by first | exact h | exact h.1); exact .inr (by omega)), hx.2⟩, h2⟩
        have HN2 := Lib.hid hN2
        clear hN2
        obtain ⟨hl1, hl2, _, _⟩ := h2.lts
        have k4 := h2.k.cells.c4
        have k4f := h2.k.free 4
        rw [hacc] at k4
        obtain ⟨ga, gc, rfl, _⟩ := ou.formB
        have HOU := Lib.hid ou
        have HULT := Lib.hid ou.lt
        obtain ⟨w3, hw3, f3, h3⟩ : ∃ W, w2.setCell ⟨b, 4, none⟩ (.int .i64 m.acc) = W ∧ Fr [b] w2 W ∧ StR W N2 L b { M2 with acc := m.acc } (.iface st su) a' cap' P' := ⟨_, rfl, (Fr.refl _ _).setCell (.inl (by simp)) _, h2.k.acc _, h2.s.keep ((Fr.refl [b] _).setCell (.inl (by simp)) _) (fun y hy hm => by simp at hm; subst hm; exact h2.bl hy), h2.p.keep ((Fr.refl [b] _).setCell (.inl (by simp)) _) (fun y hy => by simp at hy; subst hy; exact h2.nb), h2.e, h2.nb, h2.nl, h2.bl⟩
        have hme : ({ M2 with acc := m.acc } : SM) = M2 := by rw [← hacc]
        rw [hme] at h3
        have HR := Lib.hid (st_refill h3 (by rw [hacc]; exact hbd))
        clear hme
        have HLL := Lib.hid hl2
        clear ou h2 h3 hbd hacc hl2
        go_wp2_with fail
        refine HR.out.mono ?_
        rintro e w4 ⟨rfl, f4, a4, cap4, P4, h4⟩
        clear HR hw3 k4 k4f hwk
        have k5 := h4.k.cells.c5
        rw [fill_w] at k5
        try dsimp only at k5
        rw [HTW.out] at k5
        have HFF := Lib.hid (And.intro f2 (And.intro f3 f4))
        have hs2 := f2.size
        have hs3 := f3.size
        have hs4 := f4.size
        have HH4 := Lib.hid h4
        clear h4 f2 f3 f4
        by_cases hout : out = []
        · have hlen : out.length = 0 := by rw [hout]; rfl
          have HLE := Lib.hid hlen
          have HOT := Lib.hid hout
          rw [hlen]
          clear hout hlen
          go_wp2_with fail
          go_quiet (fail)
          go_wp2_with fail
          go_ret2
          obtain ⟨f2, f3, f4'⟩ := HFF.out
          have f4 := f4'.drewN nq
          have HH5 := HH4.out.keep0 ((Fr.refl _ _).drewN nq)
          unfold ReadPost
          dsimp only
          have hE := HE.out
          rw [if_pos HOT.out] at hE
          rw [if_pos HMW.out] at hE
          rw [← hE]
          refine ⟨.slice none 0 0, rfl, HBB.out _ (((f2.then (f3.mono (by simp))).then (f4.mono (fun x hx => .inl (List.mem_cons_of_mem _ hx))))), by rw [HOT.out]; exact Ow.nil _ _ _, _, fun x hx => ⟨?_, by simp [Value.ownBlock]⟩, HK2.out, _, _, _, _, HH5⟩
          rcases hx with hx | hx
          · exact (HN2.out x hx).1
          · exact .inr (by omega)
        · have hlen : (0 : Int) < out.length := by have := List.length_pos_iff.2 hout; omega
          have HOT := Lib.hid hout
          clear hout
          go_wp2_with fail
          go_ret2
          obtain ⟨f2, f3, f4'⟩ := HFF.out
          have f4 := f4'
          have HH5 := HH4.out
          unfold ReadPost
          dsimp only
          have hE := HE.out
          rw [if_neg HOT.out] at hE
          rw [← hE]
          have hne : ∀ k, (Value.slice ga out.length gc).ownBlock = some k → k ∉ b :: L := fun k e hm => by
            have h5 := (HULT.out k e).1
            simp at hm
            rcases hm with rfl | hm
            · omega
            · have := HWL.out k hm; omega
          refine ⟨_, rfl, HBB.out _ (((f2.then (f3.mono (by simp))).then (f4.mono (fun x hx => .inl (List.mem_cons_of_mem _ hx))))), ((HOU.out.keep f3 (fun k e hm => hne k e (by simp at hm; simp [hm]))).keep f4 hne).mono (by omega), _, fun x hx => ?_, HK2.out, _, _, _, _, HH5⟩
          rcases hx with hx | hx
          · exact ⟨(HN2.out x hx).1, fun e => by have := (HULT.out x e).1; have := (HN2.out x hx).2; omega⟩
          · exact ⟨.inr (by omega), fun e => by have := (HULT.out x e).2; omega⟩
      · have HMW := Lib.hid hmw
        have hmw' : m.w = 0 := by omega
        rw [hmw'] at HTW c5
        clear hc hok hb hb' hmw hmw' hok2 h3 h4 h2 hwk0 hbd0 htw hout hE hA hacc hwk hbd h0 q0 f0 HO
        generalize hM2 : takeM0 m n.toNat = M2 at *
        have HM2 := Lib.hid hM2
        clear hM2
        go_enter Try.func35, Try.ntmps35
        go_wp2_with fail
        refine HZ.out.mono ?_
        rintro e w' ⟨rfl, rfl⟩
        go_wp2_with fail
        refine HC.out.mono ?_
        rintro e w2 ⟨Z, u, a', cap', P', rfl, f2, hZ, ou, h2⟩
        clear HC hm he HZ c0 c1 c2 c3 c5 c6 d0
        obtain ⟨hacc, hbd, hwk⟩ := HB.out
        obtain ⟨N2, hN2, h2⟩ : ∃ N2 : Nat → Prop, (∀ x, N2 x → (N x ∨ w.heap.size ≤ x) ∧ x < Z) ∧ StR w2 N2 L b M2 (.iface st su) a' cap' P' := ⟨_, fun x hx => ⟨(by rcases hx.1 with h | h; exact .inl (by first | exact h | exact h.1); exact .inr (by omega)), hx.2⟩, h2⟩
        have HN2 := Lib.hid hN2
        clear hN2
        obtain ⟨hl1, hl2, _, _⟩ := h2.lts
        have k4 := h2.k.cells.c4
        have k4f := h2.k.free 4
        rw [hacc] at k4
        obtain ⟨ga, gc, rfl, _⟩ := ou.formB
        have HOU := Lib.hid ou
        have HULT := Lib.hid ou.lt
        obtain ⟨w3, hw3, f3, h3⟩ : ∃ W, w2.setCell ⟨b, 4, none⟩ (.int .i64 m.acc) = W ∧ Fr [b] w2 W ∧ StR W N2 L b { M2 with acc := m.acc } (.iface st su) a' cap' P' := ⟨_, rfl, (Fr.refl _ _).setCell (.inl (by simp)) _, h2.k.acc _, h2.s.keep ((Fr.refl [b] _).setCell (.inl (by simp)) _) (fun y hy hm => by simp at hm; subst hm; exact h2.bl hy), h2.p.keep ((Fr.refl [b] _).setCell (.inl (by simp)) _) (fun y hy => by simp at hy; subst hy; exact h2.nb), h2.e, h2.nb, h2.nl, h2.bl⟩
        have hme : ({ M2 with acc := m.acc } : SM) = M2 := by rw [← hacc]
        rw [hme] at h3
        have HR := Lib.hid (st_refill h3 (by rw [hacc]; exact hbd))
        clear hme
        have HLL := Lib.hid hl2
        clear ou h2 h3 hbd hacc hl2
        go_wp2_with fail
        refine HR.out.mono ?_
        rintro e w4 ⟨rfl, f4, a4, cap4, P4, h4⟩
        clear HR hw3 k4 k4f hwk
        have k5 := h4.k.cells.c5
        rw [fill_w] at k5
        try dsimp only at k5
        rw [HTW.out] at k5
        have HFF := Lib.hid (And.intro f2 (And.intro f3 f4))
        have hs2 := f2.size
        have hs3 := f3.size
        have hs4 := f4.size
        have HH4 := Lib.hid h4
        clear h4 f2 f3 f4
        by_cases hout : out = []
        · have hlen : out.length = 0 := by rw [hout]; rfl
          have HLE := Lib.hid hlen
          have HOT := Lib.hid hout
          rw [hlen]
          clear hout hlen
          go_wp2_with fail
          go_ret2
          obtain ⟨f2, f3, f4'⟩ := HFF.out
          have f4 := f4'
          have HH5 := HH4.out
          unfold ReadPost
          dsimp only
          have hE := HE.out
          rw [if_pos HOT.out] at hE
          rw [if_neg HMW.out] at hE
          rw [← hE]
          refine ⟨.slice none 0 0, rfl, HBB.out _ (((f2.then (f3.mono (by simp))).then (f4.mono (fun x hx => .inl (List.mem_cons_of_mem _ hx))))), by rw [HOT.out]; exact Ow.nil _ _ _, _, fun x hx => ⟨?_, by simp [Value.ownBlock]⟩, HK2.out, _, _, _, _, HH5⟩
          rcases hx with hx | hx
          · exact (HN2.out x hx).1
          · exact .inr (by omega)
        · have hlen : (0 : Int) < out.length := by have := List.length_pos_iff.2 hout; omega
          have HOT := Lib.hid hout
          clear hout
          go_wp2_with fail
          go_ret2
          obtain ⟨f2, f3, f4'⟩ := HFF.out
          have f4 := f4'
          have HH5 := HH4.out
          unfold ReadPost
          dsimp only
          have hE := HE.out
          rw [if_neg HOT.out] at hE
          rw [← hE]
          have hne : ∀ k, (Value.slice ga out.length gc).ownBlock = some k → k ∉ b :: L := fun k e hm => by
            have h5 := (HULT.out k e).1
            simp at hm
            rcases hm with rfl | hm
            · omega
            · have := HWL.out k hm; omega
          refine ⟨_, rfl, HBB.out _ (((f2.then (f3.mono (by simp))).then (f4.mono (fun x hx => .inl (List.mem_cons_of_mem _ hx))))), ((HOU.out.keep f3 (fun k e hm => hne k e (by simp at hm; simp [hm]))).keep f4 hne).mono (by omega), _, fun x hx => ?_, HK2.out, _, _, _, _, HH5⟩
          rcases hx with hx | hx
          · exact ⟨(HN2.out x hx).1, fun e => by have := (HULT.out x e).1; have := (HN2.out x hx).2; omega⟩
          · exact ⟨.inr (by omega), fun e => by have := (HULT.out x e).2; omega⟩
end
end Go.Proofs.Ytdoamelhclnphaa
