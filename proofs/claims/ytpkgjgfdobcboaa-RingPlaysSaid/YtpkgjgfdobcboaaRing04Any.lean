/-
  ring and its reference: Read, Peek and Skip at any numbers, one result each.
-/
import Derived.Test.YtpkgjgfdobcboaaActs04
import Derived.Test.YtpkgjgfdobcboaaFlowOps
import Derived.Lib.SlBytesConst
namespace Go.Proofs.Ytpkgjgfdobcboaa
open Go.RowKit
set_option maxRecDepth 100000

def rdT (s : List UInt8) (m : Int) : List UInt8 := if m < 0 then [] else s.take m.toNat
def rdS (s : List UInt8) (m : Int) : List UInt8 := if m < 0 then s else s.drop m.toNat
def rdE (m : Int) : Int := if m < 0 then 2 else 0
def pkT (s : List UInt8) (o m : Int) : List UInt8 := if o < 0 ∨ m < 0 then [] else (s.drop o.toNat).take m.toNat
def pkE (o m : Int) : Int := if o < 0 ∨ m < 0 then 2 else 0
def skN (s : List UInt8) (m : Int) : Int := if m < 0 then 0 else min m s.length
theorem rdT_len (s : List UInt8) (m : Int) : (rdT s m).length ≤ s.length := by unfold rdT; split <;> simp; omega
theorem rdS_len (s : List UInt8) (m : Int) : (rdS s m).length ≤ s.length := by unfold rdS; split <;> simp
theorem pkT_len (s : List UInt8) (o m : Int) : (pkT s o m).length ≤ s.length := by unfold pkT; split <;> simp; omega

theorem Ow.formSl {w : World} {M : Nat} {e : TypeId} {a : Option Addr} {n cap : Nat} {g : List UInt8} (h : Ow w M e (.slice a n cap) ((bi g).map (Value.int .u8))) : Sl w a (bi g) := by
  obtain ⟨a', c', e, _, _, hs, _⟩ := h.formB
  injection e with e1
  subst e1
  exact hs
/-- The row of a literal. -/
theorem sl_old (w : World) : Sl (w.alloc (.cells #[.int .u8 111, .int .u8 108, .int .u8 100] 5 (3, 4))) (some ⟨w.heap.size, 0, none⟩) [111, 108, 100] := fun _ =>
  ⟨_, 0, rfl, by simp, fun i hi => by
    rw [Nat.zero_add, cell_of (newA rfl)]
    have : i = 0 ∨ i = 1 ∨ i = 2 := by simp at hi; omega
    rcases this with rfl | rfl | rfl <;> rfl⟩
theorem calls_sym {P : Program} {f : FuncId} {args : Array Value} {w : World} {v : Ending} (h : Calls P f args w fun e w' => e = v ∧ w = w') : Calls P f args w fun e w' => e = v ∧ w' = w := h.mono fun _ _ x => ⟨x.1, x.2.symm⟩
section
variable {w : World} {R D c M : Nat} {v : Value} {s : List UInt8}
/-- In a quiet region. -/
theorem rg_len_q (h : Rg w R D c (bi s)) (n : Nat) : Calls Try.prog 26 #[.pointer (some ⟨R, 0, none⟩)] (w.drewN n) fun e w' => e = .returned (.int .i64 s.length) ∧ w' = w.drewN n := by
  have := rg_len (h.keep ((Fr.refl [] w).drewN n) (by simp) (by simp))
  rw [bi_length] at this
  exact calls_sym this
theorem rg_free_q (h : Rg w R D c (bi s)) (n : Nat) : Calls Try.prog 27 #[.pointer (some ⟨R, 0, none⟩)] (w.drewN n) fun e w' => e = .returned (.int .i64 ((c : Int) - s.length)) ∧ w' = w.drewN n := by
  have := rg_free (h.keep ((Fr.refl [] w).drewN n) (by simp) (by simp))
  rw [bi_length] at this
  exact calls_sym this
theorem rg_cap_q (h : Rg w R D c (bi s)) (n : Nat) : Calls Try.prog 32 #[.pointer (some ⟨R, 0, none⟩)] (w.drewN n) fun e w' => e = .returned (.int .i64 c) ∧ w' = w.drewN n :=
  calls_sym (rg_cap (h.keep ((Fr.refl [] w).drewN n) (by simp) (by simp)))
def RdAny (R D c : Nat) (s T : List UInt8) (er : Int) (w : World) (e : Ending) (w' : World) : Prop :=
  ∃ u, e = .returned (.tuple #[u, .int .i64 er]) ∧ Fr [R, D] w w' ∧ Ow w' w.heap.size 5 u ((bi T).map (Value.int .u8)) ∧ Rg w' R D c (bi s)
theorem rg_read_any (h : Rg w R D c (bi s)) (m : Int) : Calls Try.prog 31 #[.pointer (some ⟨R, 0, none⟩), .int .i64 m] w (RdAny R D c (rdS s m) (rdT s m) (rdE m) w) := by
  unfold RdAny rdS rdT rdE
  have hl := h.len_le
  rw [bi_length] at hl
  by_cases hm : m < 0
  · rw [if_pos hm, if_pos hm, if_pos hm]
    refine (rg_read_bad h hm).mono ?_
    rintro e w' ⟨rfl, rfl⟩
    exact ⟨_, rfl, Fr.refl _ _, Ow.nil _ _ _, h⟩
  · rw [if_neg hm, if_neg hm, if_neg hm]
    refine (rg_read h (by omega)).mono ?_
    rintro e w' ⟨u, rfl, f, hu, hr⟩
    rw [← bi_take] at hu
    rw [← bi_drop] at hr
    exact ⟨_, rfl, f, hu.ow (by rw [List.length_take]; omega), hr⟩
theorem rg_peek_any (h : Rg w R D c (bi s)) (o m : Int) : Calls Try.prog 36 #[.pointer (some ⟨R, 0, none⟩), .int .i64 o, .int .i64 m] w fun e w' =>
    ∃ u, e = .returned (.tuple #[u, .int .i64 (pkE o m)]) ∧ Fr [] w w' ∧ Ow w' w.heap.size 5 u ((bi (pkT s o m)).map (Value.int .u8)) := by
  unfold pkE pkT
  have hl := h.len_le
  rw [bi_length] at hl
  by_cases hm : o < 0 ∨ m < 0
  · rw [if_pos hm, if_pos hm]
    refine (rg_peek_bad h hm).mono ?_
    rintro e w' ⟨rfl, rfl⟩
    exact ⟨_, rfl, Fr.refl _ _, Ow.nil _ _ _⟩
  · rw [if_neg hm, if_neg hm]
    refine (rg_peek h (by omega) (by omega)).mono ?_
    rintro e w' ⟨u, rfl, f, hu⟩
    rw [← bi_drop, ← bi_take] at hu
    exact ⟨_, rfl, f, hu.ow (by rw [List.length_take, List.length_drop]; omega)⟩
theorem rg_skip_any (h : Rg w R D c (bi s)) (m : Int) : Calls Try.prog 28 #[.pointer (some ⟨R, 0, none⟩), .int .i64 m] w fun e w' =>
    e = .returned (.tuple #[.int .i64 (skN s m), .int .i64 (rdE m)]) ∧ Fr [R, D] w w' ∧ Rg w' R D c (bi (rdS s m)) := by
  unfold rdS rdE skN
  by_cases hm : m < 0
  · rw [if_pos hm, if_pos hm, if_pos hm]
    refine (rg_skip_bad h hm).mono ?_
    rintro e w' ⟨rfl, rfl⟩
    exact ⟨rfl, Fr.refl _ _, h⟩
  · rw [if_neg hm, if_neg hm, if_neg hm]
    have := rg_skip h (most := m) (by omega)
    rw [bi_length, ← bi_drop] at this
    exact this

/-- What a function of the reference returns as a ring: the old bytes' place, or new memory. -/
def RAny (c : Nat) (s : List UInt8) (M : Nat) (v : Value) (w w' : World) (u : Value) : Prop := Ow w' M 5 u ((bi s).map (Value.int .u8)) ∧ (u = v ∨ ∀ k, u.ownBlock = some k → w.heap.size ≤ k)
theorem ref4_peek_any (h : Ow w M 5 v ((bi s).map (Value.int .u8))) (hs : s.length ≤ 4096) (o m : Int) :
    Calls Try.prog 37 #[.agg #[.int .i64 c, v], .int .i64 o, .int .i64 m] w fun e w' => ∃ u, e = .returned (.tuple #[u, .int .i64 (pkE o m)]) ∧ Fr [] w w' ∧ Ow w' w.heap.size 5 u ((bi (pkT s o m)).map (Value.int .u8)) := by
  unfold pkE pkT
  by_cases hm : o < 0 ∨ m < 0
  · rw [if_pos hm, if_pos hm]
    refine (ref4_peek_bad h hm).mono ?_
    rintro e w' ⟨rfl, f⟩
    exact ⟨_, rfl, f, Ow.nil _ _ _⟩
  · rw [if_neg hm, if_neg hm]
    have := ref4_peek (c := c) h hs o.toNat m.toNat
    rw [show ((o.toNat : Nat) : Int) = o from by omega, show ((m.toNat : Nat) : Int) = m from by omega] at this
    exact this
theorem ref4_skip_any (h : Ow w M 5 v ((bi s).map (Value.int .u8))) (hM : M ≤ w.heap.size) (hs : s.length ≤ 4096) (m : Int) :
    Calls Try.prog 38 #[.agg #[.int .i64 c, v], .int .i64 m] w fun e w' => ∃ u, e = .returned (.tuple #[.agg #[.int .i64 c, u], .int .i64 (skN s m), .int .i64 (rdE m)]) ∧ Fr [] w w' ∧ RAny c (rdS s m) M v w w' u := by
  unfold rdS rdE skN
  by_cases hm : m < 0
  · rw [if_pos hm, if_pos hm, if_pos hm]
    refine (ref4_skip_bad h hm).mono ?_
    rintro e w' ⟨rfl, f⟩
    exact ⟨_, rfl, f, h.keep f (by simp), .inl rfl⟩
  · rw [if_neg hm, if_neg hm, if_neg hm]
    obtain ⟨n, hn⟩ : ∃ n, min m.toNat s.length = n := ⟨_, rfl⟩
    have hni : min m s.length = (n : Int) := by omega
    have := ref4_skip_n (c := c) h hs m.toNat n hn
    rw [show ((m.toNat : Nat) : Int) = m from by omega] at this
    rw [hni]
    refine this.mono ?_
    rintro e w' ⟨u, rfl, f, ou⟩
    have hdd : s.drop n = s.drop m.toNat := by
      rcases Nat.le_total m.toNat s.length with h1 | h1
      · rw [← hn, Nat.min_eq_left h1]
      · rw [← hn, Nat.min_eq_right h1, List.drop_length, List.drop_eq_nil_of_le h1]
    rw [hdd] at ou
    exact ⟨_, rfl, f, ou.mono hM, .inr fun k e => (ou.lt k e).1⟩
theorem ref4_read_any (h : Ow w M 5 v ((bi s).map (Value.int .u8))) (hM : M ≤ w.heap.size) (hs : s.length ≤ 4096) (m : Int) :
    Calls Try.prog 35 #[.agg #[.int .i64 c, v], .int .i64 m] w fun e w' => ∃ u x, e = .returned (.tuple #[.agg #[.int .i64 c, u], x, .int .i64 (rdE m)]) ∧ Fr [] w w' ∧ RAny c (rdS s m) M v w w' u ∧ Ow w' w.heap.size 5 x ((bi (rdT s m)).map (Value.int .u8)) := by
  unfold rdS rdE rdT
  by_cases hm : m < 0
  · rw [if_pos hm, if_pos hm, if_pos hm]
    refine (ref4_read_bad h hm).mono ?_
    rintro e w' ⟨rfl, f⟩
    exact ⟨_, _, rfl, f, ⟨h.keep f (by simp), .inl rfl⟩, Ow.nil _ _ _⟩
  · rw [if_neg hm, if_neg hm, if_neg hm]
    have := ref4_read (c := c) h hs m.toNat
    rw [show ((m.toNat : Nat) : Int) = m from by omega] at this
    refine this.mono ?_
    rintro e w' ⟨u, x, rfl, f, ou, ox, _⟩
    exact ⟨_, _, rfl, f, ⟨ou.mono hM, .inr fun k e => (ou.lt k e).1⟩, ox⟩
theorem ref4_write_any (h : Ow w M 5 v ((bi s).map (Value.int .u8))) (hM : M ≤ w.heap.size) (hs : s.length ≤ c) (hc : c ≤ 4096) {pa : Option Addr} {len cap : Nat} {p : List UInt8} (hp : Sl w pa (bi p)) (hl : len = p.length) (hlc : len ≤ cap) (hpl : p.length ≤ 65536) :
    Calls Try.prog 34 #[.agg #[.int .i64 c, v], .slice pa len cap] w fun e w' => ∃ u, e = .returned (.tuple #[.agg #[.int .i64 c, u], .int .i64 (min p.length (c - s.length) : Nat), .int .i64 0]) ∧ Fr [] w w' ∧ RAny c (s ++ p.take (min p.length (c - s.length))) M v w w' u := by
  refine (ref4_write h hs hc hp hl hlc hpl).mono ?_
  rintro e w' ⟨u, rfl, f, ou⟩
  exact ⟨_, rfl, f, ou.mono hM, .inr fun k e => (ou.lt k e).1⟩
end
end Go.Proofs.Ytpkgjgfdobcboaa
