/-
  Package meet: the contracts by what a stream holds.
-/
import Derived.Test.YtdoamelhclnphaaMtTake
namespace Go.Proofs.Ytdoamelhclnphaa
open Go.RowKit
set_option maxRecDepth 100000

structure TkR where
  m : MM
  out : List UInt8
  err : Int
def mTake (m : MM) (most : Int) : TkR :=
  if most < 0 then ⟨m, [], 2⟩ else if most = 0 then ⟨m, [], 0⟩ else if m.r ≠ 0 then ⟨m, [], m.r⟩ else if m.w ≠ 0 then ⟨m, [], m.w⟩ else if m.s = [] then ⟨m, [], 16⟩
  else ⟨⟨m.r, m.w, m.off, m.s.drop most.toNat, m.tk + (m.s.take most.toNat).length⟩, m.s.take most.toNat, 0⟩
structure NR where
  m : MM
  n : Nat
  err : Int
def mWithdraw (m : MM) : NR := if m.off = true then ⟨⟨m.r, m.w, false, [], 0⟩, m.tk, 0⟩ else ⟨m, 0, 9⟩
def mResult (m : MM) : NR := if m.off = true ∧ m.r = 0 ∧ m.w = 0 ∧ m.s ≠ [] then ⟨m, 0, 16⟩ else mWithdraw m
structure ER where
  m : MM
  err : Int
def mOfferR (m : MM) (s : List UInt8) : ER := if m.off = true then ⟨m, 11⟩ else if m.r ≠ 0 then ⟨m, m.r⟩ else if m.w ≠ 0 then ⟨m, 14⟩ else ⟨⟨m.r, m.w, true, s, 0⟩, 0⟩
def mCloseW (m : MM) (x : Int) : ER := if x = 0 then ⟨m, 2⟩ else if m.w ≠ 0 then ⟨m, 8⟩ else ⟨⟨m.r, x, m.off, m.s, m.tk⟩, 0⟩
def mCloseR (m : MM) (x : Int) : ER := if x = 0 then ⟨m, 2⟩ else if m.r ≠ 0 then ⟨m, 8⟩ else ⟨⟨x, m.w, m.off, m.s, m.tk⟩, 0⟩

variable {w : World} {N : Nat → Prop} {b : Nat} {m : MM}

def TkPost (N : Nat → Prop) (b : Nat) (r : TkR) (w : World) (e : Ending) (w' : World) : Prop :=
  ∃ u, e = .returned (.tuple #[u, .int .i64 r.err]) ∧ Fr [b] w w' ∧ Ow w' w.heap.size 5 u ((bi r.out).map (Value.int .u8)) ∧ Mt w' N b r.m
def NPost (N : Nat → Prop) (b : Nat) (r : NR) (w : World) (e : Ending) (w' : World) : Prop :=
  e = .returned (.tuple #[.int .i64 r.n, .int .i64 r.err]) ∧ Fr [b] w w' ∧ Mt w' N b r.m
def EPost (N : Nat → Prop) (b : Nat) (r : ER) (w : World) (e : Ending) (w' : World) : Prop :=
  e = .returned (.int .i64 r.err) ∧ Fr [b] w w' ∧ Mt w' N b r.m

theorem tot_flat (P : Parts) : (P.flatten = [] ↔ tot P = 0) := by unfold tot; exact List.length_eq_zero_iff.symm

/-- A block that is newer than a stream is no part of it. -/
theorem Mt.narrow {w w' : World} {N : Nat → Prop} {b c : Nat} {m : MM} (h : Mt w N b m) (hf : Fr [] w w') (hc : w.heap.size ≤ c) (hc' : c < w'.heap.size) : Mt w' (fun x => N x ∧ x ≠ c) b m := by
  obtain ⟨a, cap, P, hb, hr, hs, hN, hF, htk⟩ := h
  exact ⟨a, cap, P, hf.keep hb (by simp), (hr.there.keep hf (by simp)).mono (fun x hx => ⟨hx.1, by omega⟩), hs, fun h => hN h.1, fun x hx => ⟨hF x (Nat.le_trans hf.size hx), by omega⟩, htk⟩
theorem meet_newN (w : World) :
    Calls Try.prog 54 #[] w fun e w' => e = .returned (.pointer (some ⟨w.heap.size, 0, none⟩)) ∧ Fr [] w w' ∧ w'.heap.size = w.heap.size + 1 ∧ ∀ N : Nat → Prop, ¬ N w.heap.size → (∀ x, w.heap.size < x → N x) → Mt w' N w.heap.size ⟨0, 0, false, [], 0⟩ := by
  go_enter Try.func54, Try.ntmps54
  go_wp2
  go_ret
  refine ⟨rfl, (Fr.refl _ _).alloc _, by simp, fun N h1 h2 => ⟨none, 0, [], newA rfl, Rp.none_ _ _, rfl, h1, fun x hx => h2 x (by simp at hx; omega), by simp [tot]⟩⟩

theorem take_mm (h : Mt w N b m) (most : Int) :
    Calls Try.prog 60 #[.pointer (some ⟨b, 0, none⟩), .int .i64 most] w (TkPost N b (mTake m most) w) := by
  have h' := h
  obtain ⟨a, cap, P, hb, hr, hs, hN, hF, htk⟩ := h
  have plain : ∀ (x : Int), mTake m most = ⟨m, [], x⟩ → (Calls Try.prog 60 #[.pointer (some ⟨b, 0, none⟩), .int .i64 most] w fun e w' => e = .returned (.tuple #[.slice none 0 0, .int .i64 x]) ∧ Fr [] w w') →
      Calls Try.prog 60 #[.pointer (some ⟨b, 0, none⟩), .int .i64 most] w (TkPost N b (mTake m most) w) := fun x e hc => by
    rw [e]
    exact hc.mono fun e w' ⟨he, hf⟩ => ⟨_, he, hf.mono (by simp), Ow.nil _ _ _, h'.keep0 hf⟩
  by_cases h1 : most < 0
  · exact plain 2 (by unfold mTake; rw [if_pos h1]) (take_arg hb h1)
  by_cases h2 : most = 0
  · subst h2
    exact plain 0 (by unfold mTake; rw [if_neg (by omega), if_pos rfl]) (take_zero hb)
  have h2' : 0 < most := by omega
  by_cases h3 : m.r ≠ 0
  · exact plain m.r (by unfold mTake; rw [if_neg h1, if_neg h2, if_pos h3]) (take_r hb h2' h3)
  have h3' : m.r = 0 := by omega
  by_cases h4 : m.w ≠ 0
  · exact plain m.w (by unfold mTake; rw [if_neg h1, if_neg h2, if_neg h3, if_pos h4]) (mtake_w (by rw [h3'] at hb; exact hb) h2' h4)
  have h4' : m.w = 0 := by omega
  rw [h3', h4'] at hb
  by_cases h5 : m.s = []
  · have h0 : tot P = 0 := (tot_flat P).1 (hs.trans h5)
    rw [h0] at hb
    exact plain 16 (by unfold mTake; rw [if_neg h1, if_neg h2, if_neg h3, if_neg h4, if_pos h5]) (take_block hb h2')
  · have h0 : 0 < tot P := by
      rcases Nat.eq_zero_or_pos (tot P) with h | h
      · exact absurd (hs.symm.trans ((tot_flat P).2 h)) h5
      · exact h
    have e : mTake m most = ⟨⟨0, 0, m.off, m.s.drop most.toNat, m.tk + (m.s.take most.toNat).length⟩, m.s.take most.toNat, 0⟩ := by
      unfold mTake; rw [if_neg h1, if_neg h2, if_neg h3, if_neg h4, if_neg h5, h3', h4']
    rw [e]
    refine (take_ok hb hr hN h0 (by omega) h2').mono ?_
    rintro e w' ⟨u, a2, cap2, he, hf, ho, hm, hr2⟩
    have et : tot (cutF P most.toNat) = (m.s.take most.toNat).length := by unfold tot; rw [cutF_flat, hs]
    have eR : tot (cutR P most.toNat) = tot P - most.toNat := tot_cutR P _
    have hsl : m.s.length = tot P := by rw [← hs]; rfl
    refine ⟨u, he, hf, by rw [← hs]; exact ho, a2, cap2, _, by rw [← et]; exact hm, hr2.mono (fun x hx => hx.elim id (fun h => hF x h)), by rw [cutR_flat, hs], hN, fun x hx => hF x (Nat.le_trans hf.size hx), ?_⟩
    show m.tk + (m.s.take most.toNat).length + tot (cutR P most.toNat) ≤ 65536
    rw [eR, List.length_take]
    omega

theorem withdraw_mm (h : Mt w N b m) :
    Calls Try.prog 97 #[.pointer (some ⟨b, 0, none⟩)] w (NPost N b (mWithdraw m) w) := by
  have h' := h
  obtain ⟨a, cap, P, hb, hr, hs, hN, hF, htk⟩ := h
  unfold mWithdraw
  by_cases h1 : m.off = true
  · rw [if_pos h1]
    rw [h1] at hb
    exact (withdraw_ok hb).mono fun e w' ⟨he, hf, hm⟩ => ⟨he, hf, none, 0, [], hm, Rp.none_ _ _, rfl, hN, fun x hx => hF x (Nat.le_trans hf.size hx), by simp [tot]⟩
  · rw [if_neg h1]
    have h1' : m.off = false := by simpa using h1
    rw [h1'] at hb
    exact (withdraw_none hb).mono fun e w' ⟨he, hw⟩ => ⟨he, by subst hw; exact Fr.refl _ _, by subst hw; exact h'⟩

theorem result_mm (h : Mt w N b m) :
    Calls Try.prog 56 #[.pointer (some ⟨b, 0, none⟩)] w (NPost N b (mResult m) w) := by
  have h' := h
  obtain ⟨a, cap, P, hb, hr, hs, hN, hF, htk⟩ := h
  have hsl : m.s = [] ↔ tot P = 0 := by rw [← hs]; exact tot_flat P
  by_cases h1 : m.off = true
  · rw [h1] at hb
    by_cases h2 : m.r = 0 ∧ m.w = 0
    · obtain ⟨h2, h3⟩ := h2
      by_cases h4 : m.s = []
      · have e : mResult m = ⟨⟨m.r, m.w, false, [], 0⟩, m.tk, 0⟩ := by unfold mResult mWithdraw; rw [if_neg (fun h => h.2.2.2 h4), if_pos h1]
        rw [e, h2, h3]
        rw [h2, h3, hsl.1 h4] at hb
        exact (result_zero hb).mono fun e w' ⟨he, hf, hm⟩ => ⟨he, hf, none, 0, [], hm, Rp.none_ _ _, rfl, hN, fun x hx => hF x (Nat.le_trans hf.size hx), by simp [tot]⟩
      · have e : mResult m = ⟨m, 0, 16⟩ := by unfold mResult; rw [if_pos ⟨h1, h2, h3, h4⟩]
        rw [e]
        rw [h2, h3] at hb
        have h5 : 0 < tot P := by rcases Nat.eq_zero_or_pos (tot P) with h | h; exact absurd (hsl.2 h) h4; exact h
        exact (result_block hb (by omega)).mono fun e w' ⟨he, hf⟩ => ⟨he, hf.mono (by simp), h'.keep0 hf⟩
    · have e : mResult m = ⟨⟨m.r, m.w, false, [], 0⟩, m.tk, 0⟩ := by unfold mResult mWithdraw; rw [if_neg (fun h => h2 ⟨h.2.1, h.2.2.1⟩), if_pos h1]
      rw [e]
      have hc : (m.r == 0 && m.w == 0) = false := by
        by_cases hx : m.r = 0
        · by_cases hy : m.w = 0
          · exact absurd ⟨hx, hy⟩ h2
          · simp [hy]
        · simp [hx]
      exact (result_closed hb hc).mono fun e w' ⟨he, hf, hm⟩ => ⟨he, hf, none, 0, [], hm, Rp.none_ _ _, rfl, hN, fun x hx => hF x (Nat.le_trans hf.size hx), by simp [tot]⟩
  · have e : mResult m = ⟨m, 0, 9⟩ := by unfold mResult mWithdraw; rw [if_neg (fun h => h1 h.1), if_neg h1]
    rw [e]
    have h1' : m.off = false := by simpa using h1
    rw [h1'] at hb
    exact (result_none hb).mono fun e w' ⟨he, hw⟩ => ⟨he, by subst hw; exact Fr.refl _ _, by subst hw; exact h'⟩

theorem offer_mm (h : Mt w N b m) {v : Value} {P : Parts} (hv : Rp w N v P) :
    Calls Try.prog 58 #[.pointer (some ⟨b, 0, none⟩), v] w (EPost N b (mOfferR m P.flatten) w) := by
  have h' := h
  obtain ⟨a, cap, P0, hb, hr, hs, hN, hF, htk⟩ := h
  obtain ⟨x, xc, rfl, _⟩ := id hv
  have plain : ∀ (k : Int), mOfferR m P.flatten = ⟨m, k⟩ → (Calls Try.prog 58 #[.pointer (some ⟨b, 0, none⟩), .agg #[.slice x P.length xc, .int .i64 (tot P)]] w fun e w' => e = .returned (.int .i64 k) ∧ Fr [] w w') →
      Calls Try.prog 58 #[.pointer (some ⟨b, 0, none⟩), .agg #[.slice x P.length xc, .int .i64 (tot P)]] w (EPost N b (mOfferR m P.flatten) w) := fun k e hc => by
    rw [e]
    exact hc.mono fun e w' ⟨he, hf⟩ => ⟨he, hf.mono (by simp), h'.keep0 hf⟩
  by_cases h1 : m.off = true
  · rw [h1] at hb
    exact plain 11 (by unfold mOfferR; rw [if_pos h1]) (offer_busy hb _ _ _ _)
  have h1' : m.off = false := by simpa using h1
  rw [h1'] at hb
  by_cases h2 : m.r ≠ 0
  · exact plain m.r (by unfold mOfferR; rw [if_neg h1, if_pos h2]) (offer_read hb h2 _ _ _ _)
  have h2' : m.r = 0 := by omega
  rw [h2'] at hb
  by_cases h3 : m.w ≠ 0
  · exact plain 14 (by unfold mOfferR; rw [if_neg h1, if_neg h2, if_pos h3]) (offer_closed hb h3 _ _ _ _)
  have h3' : m.w = 0 := by omega
  rw [h3'] at hb
  have e : mOfferR m P.flatten = ⟨⟨0, 0, true, P.flatten, 0⟩, 0⟩ := by unfold mOfferR; rw [if_neg h1, if_neg h2, if_neg h3, h2', h3']
  rw [e]
  have ht : tot P ≤ 65536 := by obtain ⟨_, _, _, _, _, _, _, _, h⟩ := hv; exact h
  exact (offer_ok hb _ _ _ _).mono fun e w' ⟨he, hf, hm⟩ => ⟨he, hf, x, xc, P, hm, hv.keep hf (by simpa using hN), rfl, hN, fun x hx => hF x (Nat.le_trans hf.size hx), by simpa using ht⟩

end Go.Proofs.Ytdoamelhclnphaa
