/-
  Package ring by what a ring buffer holds.
-/
import Derived.Test.YtpkgjgfdobcboaaRingSkip
import Derived.Test.YtpkgjgfdobcboaaRingPeek
namespace Go.Proofs.Ytpkgjgfdobcboaa
open Go.RowKit
set_option maxRecDepth 100000

/-- A ring buffer at block R, its memory at block D, of capacity c, that holds q. -/
def Rg (w : World) (R D c : Nat) (q : List Int) : Prop :=
  ∃ (bs : List Int) (f n K : Nat) (J : List Value), RgB w R D c K f n ∧ RowJ w D bs J ∧ (c ≤ bs.length ∧ c ≤ K) ∧ 1 ≤ c ∧ c ≤ 4096 ∧ f < c ∧ n ≤ c ∧ R ≠ D ∧ ringQ (bs.take c) f n = q
theorem Rg.keep {w w' : World} {R D c : Nat} {q : List Int} (h : Rg w R D c q) {S : List Nat} (hf : Fr S w w') (h1 : R ∉ S) (h2 : D ∉ S) : Rg w' R D c q := by
  obtain ⟨bs, f, n, K, J, a, b, x⟩ := h
  exact ⟨bs, f, n, K, J, hf.keep a h1, hf.keep b h2, x⟩
theorem Rg.len_le {w : World} {R D c : Nat} {q : List Int} (h : Rg w R D c q) : q.length ≤ c ∧ c ≤ 4096 ∧ 1 ≤ c ∧ R ≠ D ∧ R < w.heap.size ∧ D < w.heap.size := by
  obtain ⟨bs, f, n, K, J, a, b, ⟨h1, hK⟩, h2, h3, h4, h5, h6, rfl⟩ := h
  rw [ringQ_length]
  exact ⟨h5, h3, h2, h6, lt_of_heap a, lt_of_heap b⟩

theorem rg_new (c : Nat) (w : World) (h1 : 1 ≤ c) (h2 : c ≤ 4096) :
    Calls Try.prog 24 #[.int .i64 c] w fun e w' => e = .returned (.tuple #[.pointer (some ⟨w.heap.size + 1, 0, none⟩), .int .i64 0]) ∧ Fr [] w w' ∧ Rg w' (w.heap.size + 1) w.heap.size c [] := by
  have hmk := run_make_row' (P := Try.prog) 29 5 (.int .u8 0) 1 Try.underlying29 (by kernel_rfl) rfl .i64 .i64 c (by omega) (by omega)
  go_enter Try.func24, Try.ntmps24
  go_wp2
  go_ret2
  refine ⟨rfl, ((Fr.refl _ _).alloc _).alloc _, List.replicate c 0, 0, 0, c, [], newA (by simp), ?_, ⟨by simp, Nat.le_refl _⟩, h1, h2, by omega, by omega, by omega, rfl⟩
  refine RowB.junk ?_
  unfold RowB
  rw [← madeCells_bytes]
  exact keepA (newA rfl)
theorem rg_new_bad (c : Int) (w : World) (h : c < 1 ∨ 4096 < c) :
    Calls Try.prog 24 #[.int .i64 c] w fun e w' => e = .returned (.tuple #[.pointer none, .int .i64 2]) ∧ w = w' := by
  by_cases h1 : c < 1
  · clear h
    go_enter Try.func24, Try.ntmps24
    go_wp2
    go_ret2
    exact ⟨rfl, rfl⟩
  · have h2 : 4096 < c := by omega
    have h3 : 1 ≤ c := by omega
    clear h h1
    go_enter Try.func24, Try.ntmps24
    go_wp2
    go_ret2
    exact ⟨rfl, rfl⟩

theorem rg_write {w : World} {R D c : Nat} {q ps : List Int} (h : Rg w R D c q) {pa : Option Addr} {plen pcap : Nat} (hpl : plen = ps.length) (hcap : plen ≤ pcap) (hsl : Sl w pa ps) (hpd : 0 < ps.length → ∀ b o, pa = some ⟨b, o, none⟩ → b ≠ D) (hmax : plen ≤ 65536) :
    Calls Try.prog 25 #[.pointer (some ⟨R, 0, none⟩), .slice pa plen pcap] w fun e w' =>
      e = .returned (.tuple #[.int .i64 (min plen (c - q.length) : Nat), .int .i64 0]) ∧ Fr [R, D] w w' ∧ Rg w' R D c (q ++ ps.take (min plen (c - q.length))) := by
  obtain ⟨bs, f, n, K, J, a, b, ⟨h1, hK⟩, h2, h3, h4, h5, h6, rfl⟩ := h
  rw [ringQ_length]
  exact (write_ok (k := min plen (c - n)) a b h1 h3 hK h4 h5 h6 hpl hcap hsl hpd hmax rfl).mono fun e w' ⟨bs', ⟨he, hf, r, d⟩, hl, hq⟩ => ⟨he, hf, bs', f, _, K, J, r, d, ⟨by omega, hK⟩, h2, h3, h4, by omega, h6, hq⟩
theorem rg_write_long {w : World} {R D c : Nat} {q : List Int} (h : Rg w R D c q) {pa : Option Addr} {plen pcap : Nat} (hmax : 65536 < plen) (hmx : plen ≤ maxLen) :
    Calls Try.prog 25 #[.pointer (some ⟨R, 0, none⟩), .slice pa plen pcap] w fun e w' => e = .returned (.tuple #[.int .i64 0, .int .i64 5]) ∧ w = w' := by
  obtain ⟨bs, f, n, K, J, a, _⟩ := h
  unfold maxLen at hmx
  have hm : (65536 : Int) < (plen : Int) := by omega
  go_enter Try.func25, Try.ntmps25
  go_wp2_with (go_at_call 93; refine (zero_at a).mono ?_; rintro e w' ⟨rfl, rfl⟩)
  go_ret2
  exact ⟨rfl, rfl⟩

/-- A result that reads as some bytes, in new memory. -/
def NewB (w : World) (out : List Int) (v : Value) (w' : World) : Prop :=
  (out = [] ∧ v = .slice none 0 0) ∨ ∃ N : Nat, v = .slice (some ⟨N, 0, none⟩) out.length out.length ∧ RowB w' N out ∧ w.heap.size ≤ N

theorem rg_peek {w : World} {R D c : Nat} {q : List Int} (h : Rg w R D c q) {off most : Int} (h0 : 0 ≤ off) (hm : 0 ≤ most) :
    Calls Try.prog 36 #[.pointer (some ⟨R, 0, none⟩), .int .i64 off, .int .i64 most] w fun e w' =>
      ∃ v, e = .returned (.tuple #[v, .int .i64 0]) ∧ Fr [] w w' ∧ NewB w ((q.drop off.toNat).take most.toNat) v w' := by
  obtain ⟨bs, f, n, K, J, a, b, ⟨h1, hK⟩, h2, h3, h4, h5, h6, rfl⟩ := h
  by_cases ho : off < n
  · obtain ⟨o, rfl⟩ := Int.eq_ofNat_of_zero_le h0
    have hmm : ∃ m : Nat, (m : Int) = min most ((n : Int) - o) := ⟨(min most ((n : Int) - o)).toNat, by omega⟩
    obtain ⟨m, hm'⟩ := hmm
    refine (peek_ok (m := m) a b h1 h3 hK h4 h5 hm (by omega) hm').mono ?_
    rintro e w' ⟨N, he, hf, hr, hN⟩
    obtain ⟨bq, hbq⟩ : ∃ bq, bs.take c = bq := ⟨_, rfl⟩
    rw [hbq] at he hr ⊢
    have e1 : ((ringQ bq f n).drop o).take m = ((ringQ bq f n).drop o).take most.toNat := by
      by_cases hc : most ≤ (n : Int) - o
      · rw [show m = most.toNat from by omega]
      · rw [List.take_of_length_le (by simp [ringQ_length]; omega), List.take_of_length_le (by simp [ringQ_length]; omega)]
    rw [e1] at he hr
    exact ⟨_, he, hf, .inr ⟨N, rfl, hr, hN⟩⟩
  · have hge : (n : Int) ≤ off := by omega
    have e1 : ((ringQ (bs.take c) f n).drop off.toNat).take most.toNat = [] := by
      rw [List.drop_eq_nil_of_le (by rw [ringQ_length]; omega)]; simp
    rw [e1]
    obtain ⟨c0, c1, c2, _, _⟩ := a.cells
    clear ho e1
    go_enter Try.func36, Try.ntmps36
    go_wp2_with (go_at_call 93; refine (zero_at a).mono ?_; rintro e w' ⟨rfl, rfl⟩)
    go_ret2
    exact ⟨_, rfl, Fr.refl _ _, .inl ⟨rfl, rfl⟩⟩
theorem rg_peek_bad {w : World} {R D c : Nat} {q : List Int} (h : Rg w R D c q) {off most : Int} (h0 : off < 0 ∨ most < 0) :
    Calls Try.prog 36 #[.pointer (some ⟨R, 0, none⟩), .int .i64 off, .int .i64 most] w fun e w' => e = .returned (.tuple #[.slice none 0 0, .int .i64 2]) ∧ w = w' := by
  obtain ⟨bs, f, n, K, J, a, _⟩ := h
  by_cases h1 : off < 0
  · clear h0
    go_enter Try.func36, Try.ntmps36
    go_wp2_with (go_at_call 93; refine (zero_at a).mono ?_; rintro e w' ⟨rfl, rfl⟩)
    go_ret2
    exact ⟨rfl, rfl⟩
  · have h2 : most < 0 := by omega
    have h3 : 0 ≤ off := by omega
    clear h0 h1
    go_enter Try.func36, Try.ntmps36
    go_wp2_with (go_at_call 93; refine (zero_at a).mono ?_; rintro e w' ⟨rfl, rfl⟩)
    go_ret2
    exact ⟨rfl, rfl⟩

theorem rg_skip {w : World} {R D c : Nat} {q : List Int} (h : Rg w R D c q) {most : Int} (hm : 0 ≤ most) :
    Calls Try.prog 28 #[.pointer (some ⟨R, 0, none⟩), .int .i64 most] w fun e w' =>
      e = .returned (.tuple #[.int .i64 (min most q.length), .int .i64 0]) ∧ Fr [R, D] w w' ∧ Rg w' R D c (q.drop most.toNat) := by
  obtain ⟨bs, f, n, K, J, a, b, ⟨h1, hK⟩, h2, h3, h4, h5, h6, rfl⟩ := h
  rw [ringQ_length]
  have hmm : ∃ m : Nat, (m : Int) = min most n := ⟨(min most (n : Int)).toNat, by omega⟩
  obtain ⟨m, hm'⟩ := hmm
  refine (skip_ok (k := m) a b h1 h3 hK h4 h5 h6 hm hm').mono ?_
  rintro e w' ⟨bs', ⟨he, hf, r, d⟩, hl, hq⟩
  have e1 : (ringQ (bs.take c) f n).drop m = (ringQ (bs.take c) f n).drop most.toNat := by
    by_cases hc : most ≤ n
    · rw [show m = most.toNat from by omega]
    · rw [List.drop_eq_nil_of_le (by rw [ringQ_length]; omega), List.drop_eq_nil_of_le (by rw [ringQ_length]; omega)]
  rw [e1] at hq
  rw [hm'] at he
  exact ⟨he, hf, bs', _, _, K, J, r, d, ⟨by omega, hK⟩, h2, h3, Nat.mod_lt _ (by omega), by omega, h6, hq⟩
theorem rg_skip_bad {w : World} {R D c : Nat} {q : List Int} (h : Rg w R D c q) {most : Int} (hm : most < 0) :
    Calls Try.prog 28 #[.pointer (some ⟨R, 0, none⟩), .int .i64 most] w fun e w' => e = .returned (.tuple #[.int .i64 0, .int .i64 2]) ∧ w = w' := by
  obtain ⟨bs, f, n, K, J, a, _⟩ := h
  go_enter Try.func28, Try.ntmps28
  go_wp2_with (go_at_call 93; refine (zero_at a).mono ?_; rintro e w' ⟨rfl, rfl⟩)
  go_ret2
  exact ⟨rfl, rfl⟩

theorem rg_len {w : World} {R D c : Nat} {q : List Int} (h : Rg w R D c q) : Calls Try.prog 26 #[.pointer (some ⟨R, 0, none⟩)] w fun e w' => e = .returned (.int .i64 q.length) ∧ w = w' := by
  obtain ⟨bs, f, n, K, J, a, b, ⟨h1, hK⟩, h2, h3, h4, h5, h6, rfl⟩ := h
  rw [ringQ_length]; exact len_at a
theorem rg_cap {w : World} {R D c : Nat} {q : List Int} (h : Rg w R D c q) : Calls Try.prog 32 #[.pointer (some ⟨R, 0, none⟩)] w fun e w' => e = .returned (.int .i64 c) ∧ w = w' := by
  obtain ⟨bs, f, n, K, J, a, _⟩ := h
  exact cap_at a
theorem rg_free {w : World} {R D c : Nat} {q : List Int} (h : Rg w R D c q) : Calls Try.prog 27 #[.pointer (some ⟨R, 0, none⟩)] w fun e w' => e = .returned (.int .i64 ((c : Int) - q.length)) ∧ w = w' := by
  obtain ⟨bs, f, n, K, J, a, b, ⟨h1, hK⟩, h2, h3, h4, h5, h6, rfl⟩ := h
  rw [ringQ_length]; exact free_at a h3 h5

/-- Read: at most some bytes are taken out. -/
theorem rg_read {w : World} {R D c : Nat} {q : List Int} (h : Rg w R D c q) {most : Int} (hm : 0 ≤ most) :
    Calls Try.prog 31 #[.pointer (some ⟨R, 0, none⟩), .int .i64 most] w fun e w' =>
      ∃ v, e = .returned (.tuple #[v, .int .i64 0]) ∧ Fr [R, D] w w' ∧ NewB w (q.take most.toNat) v w' ∧ Rg w' R D c (q.drop most.toNat) := by
  obtain ⟨hq, hc, _, _, hR, hD⟩ := h.len_le
  have HP := Lib.hid (rg_peek h (off := 0) (Int.le_refl 0) hm)
  go_enter Try.func31, Try.ntmps31
  go_wp2_with fail
  refine HP.out.mono ?_
  rintro e w1 ⟨v, rfl, f1, hv⟩
  have h1 : Rg w1 R D c q := h.keep f1 (by simp) (by simp)
  clear HP h
  rw [show (0 : Int).toNat = 0 from rfl, List.drop_zero] at hv
  rcases hv with ⟨hnil, rfl⟩ | ⟨N, rfl, hr, hN⟩
  · have hdrop : q.drop (0 : Int).toNat = q.drop most.toNat := by
      rw [show (0 : Int).toNat = 0 from rfl, List.drop_zero]
      rcases q with _ | ⟨x, q⟩
      · simp
      · rcases hmn : most.toNat with _ | m
        · rfl
        · rw [hmn] at hnil; simp at hnil
    have HN := Lib.hid hnil
    have HD := Lib.hid hdrop
    clear hnil hdrop
    go_wp2_with fail
    refine (rg_skip h1 (most := 0) (Int.le_refl 0)).mono ?_
    rintro e w2 ⟨rfl, f2, h2⟩
    go_wp2_with fail
    go_ret2
    rw [HD.out] at h2
    exact ⟨_, rfl, f1.trans f2 (by simp) (fun _ h => .inl h), .inl ⟨HN.out, rfl⟩, h2⟩
  · have hlen : ((q.take most.toNat).length : Int) = (min most.toNat q.length : Nat) := by simp
    have hdrop : q.drop (((q.take most.toNat).length : Nat) : Int).toNat = q.drop most.toNat := by
      rw [Int.toNat_natCast, List.length_take]
      by_cases hle : most.toNat ≤ q.length
      · rw [Nat.min_eq_left hle]
      · rw [List.drop_eq_nil_of_le (by omega), List.drop_eq_nil_of_le (by omega)]
    have HD := Lib.hid hdrop
    clear hlen hdrop
    generalize hout : q.take most.toNat = out at *
    have HO := Lib.hid hout
    clear hout
    go_wp2_with fail
    refine (rg_skip h1 (most := (out.length : Nat)) (by omega)).mono ?_
    rintro e w2 ⟨rfl, f2, h2⟩
    go_wp2_with fail
    go_ret2
    rw [HD.out] at h2
    have hout := HO.out
    subst hout
    exact ⟨_, rfl, f1.trans f2 (by simp) (fun _ h => .inl h), .inr ⟨N, rfl, f2.keep hr (by simp; omega), hN⟩, h2⟩
theorem rg_read_bad {w : World} {R D c : Nat} {q : List Int} (h : Rg w R D c q) {most : Int} (hm : most < 0) :
    Calls Try.prog 31 #[.pointer (some ⟨R, 0, none⟩), .int .i64 most] w fun e w' => e = .returned (.tuple #[.slice none 0 0, .int .i64 2]) ∧ w = w' := by
  go_enter Try.func31, Try.ntmps31
  go_wp2_with (go_at_call 36; refine (rg_peek_bad h (.inr hm)).mono ?_; rintro e w' ⟨rfl, rfl⟩)
  go_ret2
  exact ⟨rfl, rfl⟩
end Go.Proofs.Ytpkgjgfdobcboaa
