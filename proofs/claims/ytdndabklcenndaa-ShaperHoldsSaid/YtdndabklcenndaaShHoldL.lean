/-
  Law 41, plain: what ShaperHolds knows of a shaper between two calls.
-/
import Derived.Test.YtdndabklcenndaaShStepC
namespace Go.Proofs.Ytdndabklcenndaa
open Go.RowKit

theorem at_far {s : SH} (h : SHOk s) {now n : Int} (hv : -1000000 * s.p ≤ lvH s now n) (hn : now ≤ 4000000000000) : atH s now n ≤ 1000000000000000 := by
  unfold atH
  have h1 := tk_bd (r := s.r) (n := max 0 (-(lvH s now n))) h.inv.r1 (by omega)
  have h2 := h.inv.p2
  have h3 := h.inv.p1
  have h4 := h.lat1
  rw [plusT_min, plusT_min]
  omega
theorem cnt_at (now : Int) : ∀ (k : Nat) (bs : List (UInt8 × Int)) (i : Nat) (x : UInt8 × Int), i < cnt now k bs → bs[i]? = some x → x.2 ≤ now
  | 0, bs, i, x, hi, _ => by rw [cnt_zero] at hi; omega
  | k + 1, [], i, x, hi, _ => by rw [cnt_nil] at hi; omega
  | k + 1, b :: bs, i, x, hi, hx => by
    simp only [cnt] at hi
    by_cases hb : b.2 ≤ now
    · rw [if_pos hb] at hi
      cases i with
      | zero => simp at hx; subst hx; exact hb
      | succ i => exact cnt_at now k bs i x (by omega) (by simpa using hx)
    · rw [if_neg hb] at hi
      omega
theorem recvL_len (now : Int) : ∀ (xs : List (List UInt8 × Int)) (k : Nat), (recvL now k xs).2.length ≤ xs.length
  | [], k => by simp [recvL]
  | y :: xs, k => by
    by_cases h' : y.2 ≤ now ∧ 0 < k
    · by_cases hk : y.1.length ≤ k
      · rw [recvL_all h'.1 h'.2 hk]
        have := recvL_len now xs (k - y.1.length)
        simp; omega
      · rw [recvL_part h'.1 h'.2 (by omega)]
        simp
    · unfold recvL
      rw [if_neg h']
      simp
structure HH (s : SH) (got sent : List UInt8) (times : List Int) (nx : Int) : Prop where
  so : SHS s
  op : s.closed = false
  bytes : sent = got ++ (flatS s.segs).map (·.1)
  tlen : times.length = sent.length
  tb : ∀ t ∈ times, 0 ≤ t ∧ t ≤ 4000000000000
  tm : ∀ (i : Nat) x, (flatS s.segs)[i]? = some x → ∃ t, times[got.length + i]? = some t ∧ t + s.lat ≤ x.2
  nx1 : nx ≤ dueH s
  nx2 : ∀ x ∈ s.segs, nx ≤ x.2
  far : ∀ x ∈ s.segs, x.2 ≤ 1000000000000000
theorem HH.len {s : SH} {got sent : List UInt8} {times : List Int} {nx : Int} (h : HH s got sent times nx) : sent.length = got.length + totS s.segs := by
  rw [h.bytes]; simp [flatS_length]
theorem may41_ok {s : SH} {now : Int} (h : s.last ≤ now) (h1 : now < 18446744073709551615) : mayE s now true = 0 := by
  unfold mayE
  rw [if_neg (by simp), if_neg (by omega)]
theorem HH.send {s : SH} {got sent : List UInt8} {times : List Int} {nx : Int} (h : HH s got sent times nx) (ok : SHOk s) {now : Int} (h0 : 0 ≤ now) (h1 : now ≤ 4000000000000) (hl : s.last ≤ now) (data : List UInt8) (hd : data.length ≤ 100) :
    ∃ n : Nat, sendNE s now data.length = n ∧ n ≤ data.length ∧ (sendE s now data.length ≠ 0 → n = 0) ∧ HH (sendH s now data) got (sent ++ data.take n) (times ++ List.replicate n now) nx ∧ (sendH s now data).segs.length ≤ s.segs.length + 1 ∧ (sendH s now data).lat = s.lat ∧ (sendH s now data).last ≤ now := by
  have hm : mayE s now (decide ((data.length : Int) ≤ 65536)) = 0 := by
    rw [show decide ((data.length : Int) ≤ 65536) = true from by simp; omega]
    exact may41_ok hl (by omega)
  have hE : sendE s now data.length = if sendN s data.length = 0 ∧ 0 < data.length then 7 else if 0 < sendN s data.length ∧ roomH s now (sendN s data.length) = false then 7 else 0 := by
    unfold sendE
    rw [if_neg (by rw [hm]; simp), if_neg (by rw [h.op]; simp)]
  by_cases e : sendE s now data.length ≠ 0
  · have e1 : sendNE s now data.length = 0 := by unfold sendNE; rw [if_pos e]
    have e2 : sendH s now data = s := by unfold sendH; rw [if_pos e]
    refine ⟨0, by simpa using e1, by omega, fun _ => rfl, ?_, by rw [e2]; omega, by rw [e2], by rw [e2]; exact hl⟩
    rw [e2]
    simpa using h
  · have e0 : sendE s now data.length = 0 := by omega
    have e1 : sendNE s now data.length = (sendN s data.length : Int) := by unfold sendNE; rw [if_neg e]
    have hso := sendH_sorted h.so ok hl data
    by_cases hz : sendN s data.length = 0
    · have e2 : sendH s now data = { s with last := now } := by unfold sendH; rw [if_neg e, if_pos hz]
      rw [hz] at e1
      refine ⟨0, by simpa using e1, by omega, fun _ => rfl, ?_, by rw [e2]; simp, by rw [e2], by rw [e2]; exact Int.le_refl _⟩
      rw [e2]
      rw [e2] at hso
      simp only [List.take_zero, List.append_nil, List.replicate_zero]
      exact ⟨hso, h.op, h.bytes, h.tlen, h.tb, h.tm, h.nx1, h.nx2, h.far⟩
    · have hroom : roomH s now (sendN s data.length) = true := by
        rw [hE, if_neg (by omega)] at e0
        cases hr : roomH s now (sendN s data.length) with
        | true => rfl
        | false => rw [if_pos ⟨by omega, hr⟩] at e0; omega
      have e2 : sendH s now data = { s with l := lvH s now (sendN s data.length), t := now, segs := s.segs ++ [(data.take (sendN s data.length), atH s now (sendN s data.length))], last := now } := by unfold sendH; rw [if_neg e, if_neg hz]
      have hle : sendN s data.length ≤ data.length := by unfold sendN; omega
      have hfar := at_far ok (of_decide_eq_true hroom) h1
      have hat := at_lat ok now (sendN s data.length)
      have hdue : dueH s ≤ atH s now (sendN s data.length) := due_at ok.inv (by have := ok.tl; omega) (by omega)
      have hlat := ok.lat1
      generalize sendN s data.length = n at *
      refine ⟨n, e1, hle, fun x => absurd x e, ?_, by rw [e2]; simp, by rw [e2], by rw [e2]; exact Int.le_refl _⟩
      rw [e2]
      rw [e2] at hso
      have htl : (data.take n).length = n := by rw [List.length_take]; omega
      have hlen := h.len
      refine ⟨hso, h.op, ?_, ?_, ?_, ?_, ?_, ?_, ?_⟩
      · simp only [flatS_append, List.map_append, flatS, List.append_nil, List.map_map, Function.comp_def, List.map_id']
        rw [h.bytes, List.append_assoc]
      · simp [h.tlen, htl]
      · intro t ht
        rcases List.mem_append.1 ht with ht | ht
        · exact h.tb t ht
        · rw [List.mem_replicate] at ht
          omega
      · intro i x hx
        simp only [flatS_append, flatS, List.append_nil] at hx
        by_cases hi : i < (flatS s.segs).length
        · rw [List.getElem?_append_left hi] at hx
          obtain ⟨t, h1, h2⟩ := h.tm i x hx
          refine ⟨t, ?_, h2⟩
          rw [List.getElem?_append_left (by have := (List.getElem?_eq_some_iff.1 h1).1; exact this)]
          exact h1
        · rw [List.getElem?_append_right (by omega), List.getElem?_map] at hx
          rw [flatS_length] at hx hi
          cases hy : (data.take n)[i - totS s.segs]? with
          | none => rw [hy] at hx; simp at hx
          | some y =>
            rw [hy] at hx
            simp only [Option.map_some, Option.some.injEq] at hx
            subst hx
            have hil := (List.getElem?_eq_some_iff.1 hy).1
            refine ⟨now, ?_, ?_⟩
            · rw [List.getElem?_append_right (by rw [h.tlen]; omega), List.getElem?_replicate, if_pos (by rw [h.tlen]; omega)]
            · show now + s.lat ≤ atH s now n
              omega
      · exact Int.le_trans h.nx1 hdue
      · intro x hx
        rcases List.mem_append.1 hx with hx | hx
        · exact h.nx2 x hx
        · simp only [List.mem_singleton] at hx
          subst hx
          exact Int.le_trans h.nx1 hdue
      · intro x hx
        rcases List.mem_append.1 hx with hx | hx
        · exact h.far x hx
        · simp only [List.mem_singleton] at hx
          subst hx
          exact hfar
theorem HH.recv {s : SH} {got sent : List UInt8} {times : List Int} {nx : Int} (h : HH s got sent times nx) (ok : SHOk s) (now : Int) (m : Nat) :
    HH (recvH s now m) (got ++ (recvL now m s.segs).1) sent times nx ∧ (∀ q, q < (recvL now m s.segs).1.length → ∃ t, times[got.length + q]? = some t ∧ (0 ≤ t ∧ t ≤ 4000000000000) ∧ t + s.lat ≤ now) ∧ got.length + (recvL now m s.segs).1.length ≤ sent.length := by
  obtain ⟨e1, e2⟩ := recvL_flat now s.segs m ok.pos
  have hlen := h.len
  have htot := recvL_tot now s.segs m
  have hcl := (cnt_le now m (flatS s.segs)).2
  have hdl : (recvL now m s.segs).1.length = cnt now m (flatS s.segs) := by rw [e1, List.length_map, List.length_take]; omega
  have hso := recvH_sorted h.so now m
  refine ⟨⟨hso, h.op, ?_, h.tlen, h.tb, ?_, h.nx1, recvL_mem (P := fun t => nx ≤ t) now _ _ h.nx2, recvL_mem (P := fun t => t ≤ 1000000000000000) now _ _ h.far⟩, ?_, by omega⟩
  · show sent = got ++ (recvL now m s.segs).1 ++ (flatS (recvL now m s.segs).2).map (·.1)
    rw [e1, e2, List.append_assoc, ← List.map_append, List.take_append_drop]
    exact h.bytes
  · intro i x hx
    have hx' : (flatS (recvL now m s.segs).2)[i]? = some x := hx
    rw [e2, List.getElem?_drop] at hx'
    obtain ⟨t, h1, h2⟩ := h.tm _ x hx'
    refine ⟨t, ?_, h2⟩
    rw [List.length_append, hdl, Nat.add_assoc]
    exact h1
  · intro q hq
    rw [hdl] at hq
    have hql : q < (flatS s.segs).length := by omega
    obtain ⟨t, h1, h2⟩ := h.tm q _ (List.getElem?_eq_getElem hql)
    have h3 := cnt_at now m (flatS s.segs) q _ hq (List.getElem?_eq_getElem hql)
    exact ⟨t, h1, h.tb t (List.mem_of_getElem? h1), by omega⟩
theorem HH.recvE {s : SH} {got sent : List UInt8} {times : List Int} {nx : Int} (h : HH s got sent times nx) {now most : Int} (hl : s.last ≤ now) (h1 : now < 18446744073709551615) (h2 : 0 ≤ most) (h3 : most ≤ 65536) : recvE s now most = 0 := by
  unfold Go.Proofs.Ytdndabklcenndaa.recvE
  rw [show (decide (0 ≤ most) && decide (most ≤ 65536)) = true from by simp; omega, may41_ok hl h1, if_neg (by simp), if_neg (by rw [h.op]; simp)]
theorem HH.next {s : SH} {got sent : List UInt8} {times : List Int} {nx : Int} (h : HH s got sent times nx) (hp : 0 < totS s.segs) : nx ≤ nextH s ∧ HH s got sent times (nextH s) := by
  have hso := h.so
  have hn2 := h.nx2
  obtain ⟨x, xs, hx⟩ : ∃ x xs, s.segs = x :: xs := by
    cases hs : s.segs with
    | nil => rw [hs] at hp; simp [totS] at hp
    | cons x xs => exact ⟨x, xs, rfl⟩
  have e : nextH s = x.2 := by unfold nextH; rw [hx]
  rw [e]
  refine ⟨hn2 x (by rw [hx]; simp), h.so, h.op, h.bytes, h.tlen, h.tb, h.tm, hso.due x (by rw [hx]; simp), ?_, h.far⟩
  have hsrt := hso.sorted
  rw [hx, List.pairwise_cons] at hsrt
  intro y hy
  rw [hx] at hy
  rcases List.mem_cons.1 hy with rfl | hy
  · exact Int.le_refl _
  · exact hsrt.1 y hy

/-- Behind Close. -/
structure HE (s : SH) (got sent : List UInt8) : Prop where
  cl : s.closed = true
  bytes : sent = got ++ (flatS s.segs).map (·.1)
  far : ∀ x ∈ s.segs, x.2 ≤ 1000000000000000
  ffar : s.fin ≤ 1000000000000000
theorem HH.close {s : SH} {got sent : List UInt8} {times : List Int} {nx : Int} (h : HH s got sent times nx) (ok : SHOk s) {now : Int} (h1 : now ≤ 4000000000000) (hl : s.last ≤ now) :
    closeE41 s now = 0 ∧ HE (closeH s now) got sent ∧ (closeH s now).segs = s.segs ∧ (closeH s now).last ≤ now := by
  have hr := room41_zero ok.inv (now := now) (by have := ok.tl; omega)
  have e : closeE41 s now = 0 := by
    unfold closeE41
    rw [may41_ok hl (by omega), if_neg (by simp), if_neg (by rw [h.op]; simp), if_neg (by rw [hr]; simp)]
  have e2 : closeH s now = { s with l := lvH s now 0, t := now, closed := true, fin := atH s now 0, last := now } := by unfold closeH; rw [if_neg (by omega)]
  refine ⟨e, ?_, by rw [e2], by rw [e2]; exact Int.le_refl _⟩
  rw [e2]
  exact ⟨rfl, h.bytes, h.far, at_far ok (of_decide_eq_true hr) h1⟩
theorem HE.recv {s : SH} {got sent : List UInt8} (h : HE s got sent) (ok : SHOk s) {now : Int} (hl : s.last ≤ now) (h1 : now < 18446744073709551615) (hp : 0 < totS s.segs) (hn : nextH s ≤ now) :
    recvE s now 65536 = 0 ∧ 0 < (recvL now 65536 s.segs).1.length ∧ HE (recvH s now 65536) (got ++ (recvL now 65536 s.segs).1) sent ∧ (recvH s now 65536).segs.length < s.segs.length := by
  obtain ⟨e1, e2⟩ := recvL_flat now s.segs 65536 ok.pos
  obtain ⟨x, xs, hx⟩ : ∃ x xs, s.segs = x :: xs := by
    cases hs : s.segs with
    | nil => rw [hs] at hp; simp [totS] at hp
    | cons x xs => exact ⟨x, xs, rfl⟩
  have e : nextH s = x.2 := by unfold nextH; rw [hx]
  rw [e] at hn
  have hx0 := ok.pos x (by rw [hx]; simp)
  have hxl : x.1.length ≤ 65536 := by
    have h1 := ok.tot
    have h2 := ok.lim1
    rw [hx] at h1
    simp only [totS] at h1
    omega
  have hall : recvL now 65536 s.segs = (x.1 ++ (recvL now (65536 - x.1.length) xs).1, (recvL now (65536 - x.1.length) xs).2) := by rw [hx]; exact recvL_all hn (by omega) hxl
  refine ⟨?_, ?_, ⟨h.cl, ?_, recvL_mem (P := fun t => t ≤ 1000000000000000) now _ _ h.far, h.ffar⟩, ?_⟩
  · unfold Go.Proofs.Ytdndabklcenndaa.recvE
    rw [show (decide ((0 : Int) ≤ 65536) && decide ((65536 : Int) ≤ 65536)) = true from by decide, may41_ok hl h1, if_neg (by simp), if_neg (by rw [hx]; simp)]
  · rw [hall]; simp; omega
  · show sent = got ++ (recvL now 65536 s.segs).1 ++ (flatS (recvL now 65536 s.segs).2).map (·.1)
    rw [e1, e2, List.append_assoc, ← List.map_append, List.take_append_drop]
    exact h.bytes
  · show (recvL now 65536 s.segs).2.length < s.segs.length
    rw [hall, hx]
    have := recvL_len now xs (65536 - x.1.length)
    simp; omega
theorem HE.done {s : SH} {got sent : List UInt8} (h : HE s got sent) (ok : SHOk s) (hz : totS s.segs = 0) : s.segs = [] ∧ sent = got ∧ nextH s = s.fin := by
  have hx : s.segs = [] := by
    have := totS_len s.segs ok.pos
    exact List.length_eq_zero_iff.1 (by omega)
  refine ⟨hx, ?_, ?_⟩
  · rw [h.bytes, hx]; simp [flatS]
  · unfold nextH; rw [hx]; simp [h.cl]
theorem HE.eof {s : SH} {got sent : List UInt8} (h : HE s got sent) (hx : s.segs = []) {now : Int} (hl : s.last ≤ now) (h1 : now < 18446744073709551615) (hf : s.fin ≤ now) : recvE s now 1 = 13 := by
  unfold Go.Proofs.Ytdndabklcenndaa.recvE
  rw [show (decide ((0 : Int) ≤ 1) && decide ((1 : Int) ≤ 65536)) = true from by decide, may41_ok hl h1, if_neg (by simp), if_pos ⟨h.cl, hx, hf⟩]
end Go.Proofs.Ytdndabklcenndaa
