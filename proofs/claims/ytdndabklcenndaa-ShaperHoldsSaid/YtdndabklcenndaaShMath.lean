/-
  Package shaper, plain: what Receive takes, byte by byte; times of arrival do not go back.
-/
import Derived.Test.YtdndabklcenndaaShOps
namespace Go.Proofs.Ytdndabklcenndaa
open Go.RowKit

/-- Receive's bytes, and the segments that are left. -/
def recvL (now : Int) : Nat → List (List UInt8 × Int) → List UInt8 × List (List UInt8 × Int)
  | _, [] => ([], [])
  | k, x :: xs => if x.2 ≤ now ∧ 0 < k then
      (if x.1.length ≤ k then (x.1 ++ (recvL now (k - x.1.length) xs).1, (recvL now (k - x.1.length) xs).2) else (x.1.take k, (x.1.drop k, x.2) :: xs))
    else ([], x :: xs)
theorem recvL_zero (now : Int) (xs : List (List UInt8 × Int)) : recvL now 0 xs = ([], xs) := by
  cases xs with
  | nil => rfl
  | cons x xs => unfold recvL; rw [if_neg (by omega)]
theorem recvL_late {now : Int} (k : Nat) {x : List UInt8 × Int} (xs : List (List UInt8 × Int)) (h : now < x.2) : recvL now k (x :: xs) = ([], x :: xs) := by
  unfold recvL; rw [if_neg (by omega)]
theorem recvL_all {now : Int} {k : Nat} {x : List UInt8 × Int} {xs : List (List UInt8 × Int)} (h : x.2 ≤ now) (h0 : 0 < k) (hk : x.1.length ≤ k) : recvL now k (x :: xs) = (x.1 ++ (recvL now (k - x.1.length) xs).1, (recvL now (k - x.1.length) xs).2) := by
  conv => lhs; unfold recvL
  rw [if_pos ⟨h, h0⟩, if_pos hk]
theorem recvL_part {now : Int} {k : Nat} {x : List UInt8 × Int} {xs : List (List UInt8 × Int)} (h : x.2 ≤ now) (h0 : 0 < k) (hk : k < x.1.length) : recvL now k (x :: xs) = (x.1.take k, (x.1.drop k, x.2) :: xs) := by
  unfold recvL
  rw [if_pos ⟨h, h0⟩, if_neg (by omega)]
theorem recvL_tot (now : Int) : ∀ (xs : List (List UInt8 × Int)) (k : Nat), (recvL now k xs).1.length + totS (recvL now k xs).2 = totS xs ∧ (recvL now k xs).1.length ≤ k
  | [], k => by simp [recvL, totS]
  | x :: xs, k => by
    by_cases h : x.2 ≤ now ∧ 0 < k
    · by_cases hk : x.1.length ≤ k
      · rw [recvL_all h.1 h.2 hk]
        have := recvL_tot now xs (k - x.1.length)
        simp only [List.length_append, totS]
        omega
      · rw [recvL_part h.1 h.2 (by omega)]
        simp only [List.length_take, totS, List.length_drop]
        omega
    · unfold recvL
      rw [if_neg h]
      simp
theorem recvL_mem (now : Int) {P : Int → Prop} : ∀ (xs : List (List UInt8 × Int)) (k : Nat), (∀ x ∈ xs, P x.2) → ∀ x ∈ (recvL now k xs).2, P x.2
  | [], k, _, x, hx => by simp [recvL] at hx
  | y :: xs, k, h, x, hx => by
    by_cases h' : y.2 ≤ now ∧ 0 < k
    · by_cases hk : y.1.length ≤ k
      · rw [recvL_all h'.1 h'.2 hk] at hx
        exact recvL_mem now xs _ (fun z hz => h z (by simp [hz])) x hx
      · rw [recvL_part h'.1 h'.2 (by omega)] at hx
        rcases List.mem_cons.1 hx with rfl | hx
        · exact h y (by simp)
        · exact h x (by simp [hx])
    · unfold recvL at hx
      rw [if_neg h'] at hx
      exact h x hx
theorem recvL_pos (now : Int) : ∀ (xs : List (List UInt8 × Int)) (k : Nat), (∀ x ∈ xs, 0 < x.1.length) → ∀ x ∈ (recvL now k xs).2, 0 < x.1.length
  | [], k, _, x, hx => by simp [recvL] at hx
  | y :: xs, k, h, x, hx => by
    by_cases h' : y.2 ≤ now ∧ 0 < k
    · by_cases hk : y.1.length ≤ k
      · rw [recvL_all h'.1 h'.2 hk] at hx
        exact recvL_pos now xs _ (fun z hz => h z (by simp [hz])) x hx
      · rw [recvL_part h'.1 h'.2 (by omega)] at hx
        rcases List.mem_cons.1 hx with rfl | hx
        · simp; omega
        · exact h x (by simp [hx])
    · unfold recvL at hx
      rw [if_neg h'] at hx
      exact h x hx
theorem recvL_sorted (now : Int) : ∀ (xs : List (List UInt8 × Int)) (k : Nat), xs.Pairwise (fun a b => a.2 ≤ b.2) → (recvL now k xs).2.Pairwise (fun a b => a.2 ≤ b.2)
  | [], k, _ => by simp [recvL]
  | y :: xs, k, h => by
    rw [List.pairwise_cons] at h
    by_cases h' : y.2 ≤ now ∧ 0 < k
    · by_cases hk : y.1.length ≤ k
      · rw [recvL_all h'.1 h'.2 hk]
        exact recvL_sorted now xs _ h.2
      · rw [recvL_part h'.1 h'.2 (by omega)]
        exact List.pairwise_cons.2 h
    · unfold recvL
      rw [if_neg h']
      exact List.pairwise_cons.2 h

/-- The bytes under way, each with its time of arrival. -/
def flatS : List (List UInt8 × Int) → List (UInt8 × Int)
  | [] => []
  | x :: xs => x.1.map (·, x.2) ++ flatS xs
theorem flatS_length (xs : List (List UInt8 × Int)) : (flatS xs).length = totS xs := by
  induction xs with
  | nil => rfl
  | cons x xs ih => simp [flatS, totS, ih]
theorem flatS_append (xs ys : List (List UInt8 × Int)) : flatS (xs ++ ys) = flatS xs ++ flatS ys := by
  induction xs with
  | nil => rfl
  | cons x xs ih => simp [flatS, ih]
/-- How many of the first k have arrived. -/
def cnt (now : Int) : Nat → List (UInt8 × Int) → Nat
  | 0, _ => 0
  | _ + 1, [] => 0
  | k + 1, b :: bs => if b.2 ≤ now then cnt now k bs + 1 else 0
theorem cnt_zero (now : Int) (bs : List (UInt8 × Int)) : cnt now 0 bs = 0 := by cases bs <;> rfl
theorem cnt_nil (now : Int) (k : Nat) : cnt now k [] = 0 := by cases k <;> rfl
theorem cnt_all {now t : Int} (h : t ≤ now) : ∀ (l : List UInt8) (k : Nat) (bs : List (UInt8 × Int)), l.length ≤ k → cnt now k (l.map (·, t) ++ bs) = l.length + cnt now (k - l.length) bs
  | [], k, bs, _ => by simp
  | a :: l, k, bs, hk => by
    obtain ⟨k, rfl⟩ : ∃ q, k = q + 1 := ⟨k - 1, by simp at hk; omega⟩
    simp only [List.map_cons, List.cons_append, cnt, if_pos h, List.length_cons]
    rw [cnt_all h l k bs (by simpa using hk)]
    rw [show k + 1 - (l.length + 1) = k - l.length by omega]
    omega
theorem cnt_part {now t : Int} (h : t ≤ now) : ∀ (l : List UInt8) (k : Nat) (bs : List (UInt8 × Int)), k ≤ l.length → cnt now k (l.map (·, t) ++ bs) = k
  | _, 0, bs, _ => cnt_zero _ _
  | [], k + 1, bs, hk => by simp at hk
  | a :: l, k + 1, bs, hk => by
    simp only [List.map_cons, List.cons_append, cnt, if_pos h]
    rw [cnt_part h l k bs (by simpa using hk)]
theorem cnt_late {now t : Int} (h : now < t) (a : UInt8) (k : Nat) (bs : List (UInt8 × Int)) : cnt now k ((a, t) :: bs) = 0 := by
  cases k with
  | zero => rfl
  | succ k => simp only [cnt]; rw [if_neg (by omega)]
theorem cnt_le (now : Int) : ∀ (k : Nat) (bs : List (UInt8 × Int)), cnt now k bs ≤ k ∧ cnt now k bs ≤ bs.length
  | 0, bs => by rw [cnt_zero]; omega
  | k + 1, [] => by rw [cnt_nil]; omega
  | k + 1, b :: bs => by
    have := cnt_le now k bs
    simp only [cnt]
    split <;> simp <;> omega
theorem late_head {now t : Int} (h : now < t) {l : List UInt8} (hl : 0 < l.length) (k : Nat) (bs : List (UInt8 × Int)) : cnt now k (l.map (·, t) ++ bs) = 0 := by
  cases l with
  | nil => simp at hl
  | cons a l => exact cnt_late h a k _
theorem take_map_app (a : List UInt8) (t : Int) (b : List (UInt8 × Int)) (n : Nat) : (a.map (·, t) ++ b).take (a.length + n) = a.map (·, t) ++ b.take n := by
  rw [List.take_append, List.take_of_length_le (l := a.map (·, t)) (by simp)]
  simp
theorem drop_map_app (a : List UInt8) (t : Int) (b : List (UInt8 × Int)) (n : Nat) : (a.map (·, t) ++ b).drop (a.length + n) = b.drop n := by
  rw [List.drop_append, List.drop_of_length_le (l := a.map (·, t)) (by simp)]
  simp
theorem recvL_flat (now : Int) : ∀ (xs : List (List UInt8 × Int)) (k : Nat), (∀ x ∈ xs, 0 < x.1.length) → (recvL now k xs).1 = ((flatS xs).take (cnt now k (flatS xs))).map (·.1) ∧ flatS (recvL now k xs).2 = (flatS xs).drop (cnt now k (flatS xs))
  | [], k, _ => by simp [recvL, flatS]
  | x :: xs, k, h => by
    have hx := h x (by simp)
    have ih := fun k => recvL_flat now xs k (fun y hy => h y (by simp [hy]))
    by_cases h' : x.2 ≤ now ∧ 0 < k
    · by_cases hk : x.1.length ≤ k
      · rw [recvL_all h'.1 h'.2 hk]
        simp only [flatS]
        rw [cnt_all h'.1 _ _ _ hk]
        obtain ⟨e1, e2⟩ := ih (k - x.1.length)
        refine ⟨?_, ?_⟩
        · rw [e1, take_map_app, List.map_append]
          simp [List.map_map, Function.comp_def]
        · rw [e2, drop_map_app]
      · rw [recvL_part h'.1 h'.2 (by omega)]
        simp only [flatS]
        rw [cnt_part h'.1 _ _ _ (by omega)]
        refine ⟨?_, ?_⟩
        · rw [List.take_append_of_le_length (by simp; omega), ← List.map_take, List.map_map]
          simp [Function.comp_def]
        · rw [List.drop_append_of_le_length (by simp; omega), List.map_drop]
    · unfold recvL
      rw [if_neg h']
      simp only [flatS]
      have e : cnt now k (x.1.map (·, x.2) ++ flatS xs) = 0 := by
        by_cases h0 : 0 < k
        · exact late_head (by omega) hx _ _
        · obtain rfl : k = 0 := by omega
          exact cnt_zero _ _
      rw [e]
      simp
theorem ready_zero {now : Int} : ∀ (xs : List (List UInt8 × Int)), (∀ x ∈ xs, now < x.2) → readyN now xs = 0
  | [], _ => rfl
  | x :: xs, h => by
    simp only [readyN]
    rw [if_neg (by have := h x (by simp); omega), ready_zero xs (fun y hy => h y (by simp [hy]))]
theorem ready_flat (now : Int) : ∀ (xs : List (List UInt8 × Int)), (∀ x ∈ xs, 0 < x.1.length) → xs.Pairwise (fun a b => a.2 ≤ b.2) → readyN now xs = cnt now (flatS xs).length (flatS xs)
  | [], _, _ => rfl
  | x :: xs, h, hs => by
    rw [List.pairwise_cons] at hs
    have hx := h x (by simp)
    by_cases h' : x.2 ≤ now
    · simp only [readyN, flatS]
      rw [if_pos h', cnt_all h' _ _ _ (by simp), ready_flat now xs (fun y hy => h y (by simp [hy])) hs.2]
      simp
    · rw [ready_zero (x :: xs) (fun y hy => by
        rcases List.mem_cons.1 hy with rfl | hy
        · omega
        · have := hs.1 y hy; omega)]
      simp only [flatS]
      rw [late_head (by omega) hx]

theorem plusT_min (t n : Int) : plusT t n = min 18446744073709551615 (t + n) := by
  unfold plusT
  split <;> omega
/-- The time at which what is reserved now would arrive. -/
def dueH (s : SH) : Int := plusT (plusT s.t (tk s.r (max 0 (-s.l)))) s.lat
/-- Times of arrival do not go back. -/
structure SHS (s : SH) : Prop where
  sorted : s.segs.Pairwise (fun a b => a.2 ≤ b.2)
  due : ∀ x ∈ s.segs, x.2 ≤ dueH s
  fin : s.closed = true → ∀ x ∈ s.segs, x.2 ≤ s.fin
theorem due_step {r p u l t now n : Int} (hi : BkInv r p u l t) (ht : t ≤ now) (hn : 0 ≤ n) : t + tk r (max 0 (-l)) ≤ now + tk r (max 0 (-(lvl r p u l t now - n * p))) := by
  have hr := hi.r1
  have hnp := Int.mul_nonneg hn (show 0 ≤ p by have := hi.p1; omega)
  obtain ⟨d, hd⟩ : ∃ d, tk r (max 0 (-(lvl r p u l t now - n * p))) = d := ⟨_, rfl⟩
  have h1 := (tk_le (r := r) (n := max 0 (-(lvl r p u l t now - n * p))) (d := d) hr).1 (by rw [hd]; exact Int.le_refl _)
  have h0 : 0 ≤ d := by rw [← hd]; exact tk_nonneg hr (by omega)
  rw [hd]
  have h2 : tk r (max 0 (-l)) ≤ (now - t) + d := by
    rw [tk_le hr]
    have h3 : r * (now - t + d) = r * (now - t) + r * d := Int.mul_add ..
    have h4 := Int.mul_nonneg (a := r) (b := now - t) (by omega) (by omega)
    have h5 : lvl r p u l t now ≤ l + r * (now - t) := by unfold lvl; omega
    omega
  omega
theorem due_at {s : SH} (hi : BkInv s.r s.p s.u s.l s.t) {now n : Int} (ht : s.t ≤ now) (hn : 0 ≤ n) : dueH s ≤ atH s now n := by
  have := due_step hi ht hn
  unfold dueH atH lvH
  rw [plusT_min, plusT_min, plusT_min, plusT_min]
  omega
theorem at_lat {s : SH} (h : SHOk s) (now n : Int) : min 18446744073709551615 (now + s.lat) ≤ atH s now n := by
  unfold atH
  have := tk_nonneg (r := s.r) (n := max 0 (-(lvH s now n))) h.inv.r1 (by omega)
  rw [plusT_min, plusT_min]
  have := h.lat0
  omega

/-- Behind Receive. -/
def recvH (s : SH) (now : Int) (k : Nat) : SH := { s with segs := (recvL now k s.segs).2, last := now }
theorem recvH_ok {s : SH} (h : SHOk s) {now : Int} (k : Nat) (h0 : s.last ≤ now) (h1 : now < 18446744073709551615) : SHOk (recvH s now k) := by
  obtain ⟨a1, a2, a3, a4, a5, a6, a7, a8, a9, a10, a11, a12, a13⟩ := h
  have ht := recvL_tot now s.segs k
  exact ⟨a1, a2, a3, a4, a5, by show ((totS (recvL now k s.segs).2 : Nat) : Int) ≤ s.lim; omega, by show 0 ≤ now; omega, h1, by show s.t ≤ now; omega, recvL_mem (P := fun t => 0 ≤ t ∧ t ≤ 18446744073709551615) now s.segs k a10, recvL_pos now s.segs k a11, a12, a13⟩
theorem recvH_sorted {s : SH} (h : SHS s) (now : Int) (k : Nat) : SHS (recvH s now k) :=
  ⟨recvL_sorted now _ _ h.sorted, recvL_mem (P := fun t => t ≤ dueH s) now _ _ h.due, fun hc => recvL_mem (P := fun t => t ≤ s.fin) now _ _ (h.fin hc)⟩
theorem closeH_sorted {s : SH} (h : SHS s) (ho : SHOk s) {now : Int} (hn : s.last ≤ now) : SHS (closeH s now) := by
  unfold closeH
  split
  · exact h
  · have h1 : dueH s ≤ atH s now 0 := due_at ho.inv (by have := ho.tl; omega) (by omega)
    refine ⟨h.sorted, fun x hx => ?_, fun _ x hx => Int.le_trans (h.due x hx) h1⟩
    exact Int.le_trans (h.due x hx) h1
theorem newH_sorted (r p u lat lim now : Int) : SHS (newH r p u lat lim now) := ⟨by simp [newH], by simp [newH], by simp [newH]⟩

def recvE (s : SH) (now most : Int) : Int := if mayE s now (decide (0 ≤ most) && decide (most ≤ 65536)) ≠ 0 then mayE s now (decide (0 ≤ most) && decide (most ≤ 65536)) else if s.closed = true ∧ s.segs = [] ∧ s.fin ≤ now then 13 else 0
def recvS (s : SH) (now most : Int) : SH := if recvE s now most ≠ 0 then s else recvH s now most.toNat
def recvB (s : SH) (now most : Int) : List UInt8 := if recvE s now most ≠ 0 then [] else (recvL now most.toNat s.segs).1
theorem recvS_bad {s : SH} {now most : Int} (h : recvE s now most ≠ 0) : recvS s now most = s := if_pos h
theorem recvB_bad {s : SH} {now most : Int} (h : recvE s now most ≠ 0) : recvB s now most = [] := if_pos h
theorem recvS_ok {s : SH} {now most : Int} (h : recvE s now most = 0) : recvS s now most = recvH s now most.toNat := if_neg (by omega)
theorem recvB_ok {s : SH} {now most : Int} (h : recvE s now most = 0) : recvB s now most = (recvL now most.toNat s.segs).1 := if_neg (by omega)

def sendN (s : SH) (m : Nat) : Nat := min m (s.lim.toNat - totS s.segs)
def sendE (s : SH) (now : Int) (m : Nat) : Int := if mayE s now (decide ((m : Int) ≤ 65536)) ≠ 0 then mayE s now (decide ((m : Int) ≤ 65536)) else if s.closed = true then 14 else if sendN s m = 0 ∧ 0 < m then 7 else if 0 < sendN s m ∧ roomH s now (sendN s m) = false then 7 else 0
def sendNE (s : SH) (now : Int) (m : Nat) : Int := if sendE s now m ≠ 0 then 0 else (sendN s m : Int)
def sendH (s : SH) (now : Int) (data : List UInt8) : SH := if sendE s now data.length ≠ 0 then s else if sendN s data.length = 0 then { s with last := now } else
  { s with l := lvH s now (sendN s data.length), t := now, segs := s.segs ++ [(data.take (sendN s data.length), atH s now (sendN s data.length))], last := now }
theorem sendH_sorted {s : SH} (h : SHS s) (ho : SHOk s) {now : Int} (hn : s.last ≤ now) (data : List UInt8) : SHS (sendH s now data) := by
  unfold sendH
  split
  · exact h
  · split
    · exact ⟨h.sorted, h.due, h.fin⟩
    · rename_i he hz
      have hc : s.closed = false := by
        cases hc : s.closed with
        | false => rfl
        | true =>
          exfalso
          apply he
          unfold sendE
          by_cases hm : mayE s now (decide ((data.length : Int) ≤ 65536)) ≠ 0
          · rw [if_pos hm]; exact hm
          · rw [if_neg hm, if_pos hc]; decide
      have h1 : dueH s ≤ atH s now (sendN s data.length) := due_at ho.inv (by have := ho.tl; omega) (by omega)
      refine ⟨?_, fun x hx => ?_, fun hc' => ?_⟩
      · rw [List.pairwise_append]
        refine ⟨h.sorted, by simp, fun a ha b hb => ?_⟩
        simp only [List.mem_singleton] at hb
        subst hb
        exact Int.le_trans (h.due a ha) h1
      · rcases List.mem_append.1 hx with hx | hx
        · exact Int.le_trans (h.due x hx) h1
        · simp only [List.mem_singleton] at hx
          subst hx
          exact Int.le_refl _
      · rw [hc] at hc'
        cases hc'
theorem sendH_ok {s : SH} (h : SHOk s) {now : Int} (data : List UInt8) (h0 : 0 ≤ now) (h1 : now ≤ 18446744073709551615) : SHOk (sendH s now data) := by
  unfold sendH
  split
  · exact h
  · rename_i he
    have hm : mayE s now (decide ((data.length : Int) ≤ 65536)) = 0 := by
      apply Classical.byContradiction
      intro hm
      exact he (by unfold sendE; rw [if_pos hm]; exact hm)
    obtain ⟨_, m1, m2⟩ := mayE_0 hm
    have hl := h.last1
    obtain ⟨a1, a2, a3, a4, a5, a6, a7, a8, a9, a10, a11, a12, a13⟩ := h
    split
    · exact ⟨a1, a2, a3, a4, a5, a6, h0, by show now < _; omega, by show s.t ≤ now; omega, a10, a11, a12, a13⟩
    · rename_i hz
      have hc : s.closed = false := by
        cases hc : s.closed with
        | false => rfl
        | true => exact absurd (show sendE s now data.length ≠ 0 by unfold sendE; rw [if_neg (by omega), if_pos hc]; decide) he
      have hv : roomH s now (sendN s data.length) = true := by
        cases hv : roomH s now (sendN s data.length) with
        | true => rfl
        | false => exact absurd (show sendE s now data.length ≠ 0 by unfold sendE; rw [if_neg (by omega), if_neg (by rw [hc]; decide), if_neg (by omega), if_pos ⟨by omega, hv⟩]; decide) he
      have hv' : -1000000 * s.p ≤ lvl s.r s.p s.u s.l s.t now - (sendN s data.length : Int) * s.p := of_decide_eq_true hv
      have hat := atH_bd ⟨a1, a2, a3, a4, a5, a6, a7, a8, a9, a10, a11, a12, a13⟩ now (sendN s data.length) h0
      have hle : sendN s data.length ≤ data.length ∧ sendN s data.length ≤ s.lim.toNat - totS s.segs := by unfold sendN; omega
      refine ⟨inv_reserved a1 (by omega) (by omega) (by omega) hv', a2, a3, a4, a5, ?_, h0, by show now < _; omega, Int.le_refl _, ?_, ?_, a12, a13⟩
      · show ((totS (s.segs ++ _) : Nat) : Int) ≤ s.lim
        rw [totS_append]
        simp only [totS, List.length_take]
        omega
      · intro x hx
        rcases List.mem_append.1 hx with hx | hx
        · exact a10 x hx
        · simp only [List.mem_singleton] at hx
          subst hx
          exact hat
      · intro x hx
        rcases List.mem_append.1 hx with hx | hx
        · exact a11 x hx
        · simp only [List.mem_singleton] at hx
          subst hx
          simp only [List.length_take]
          omega
end Go.Proofs.Ytdndabklcenndaa
