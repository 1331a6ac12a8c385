/-
  ring: Skip.
-/
import Derived.Test.YtpkgjgfdobcboaaRingOps
namespace Go.Proofs.Ytpkgjgfdobcboaa
open Go.RowKit
set_option maxRecDepth 100000

def SkPost (R D c K f n k : Nat) (J : List Value) (bs' : List Int) (w : World) (e : Ending) (w' : World) : Prop :=
  e = .returned (.tuple #[.int .i64 k, .int .i64 0]) ∧ Fr [R, D] w w' ∧ RgB w' R D c K f n ∧ RowJ w' D bs' J

set_option maxHeartbeats 1000000 in
theorem skip_ok {w : World} {R D c K f n k : Nat} {bs : List Int} {J : List Value} {most : Int} (h : RgB w R D c K f n) (hb : RowJ w D bs J) (hlen : c ≤ bs.length) (hc : c ≤ 4096) (hK : c ≤ K) (hf : f < c) (hn : n ≤ c) (hRD : R ≠ D) (hm0 : 0 ≤ most) (hk : (k : Int) = min most n) :
    Calls Try.prog 28 #[.pointer (some ⟨R, 0, none⟩), .int .i64 most] w fun e w' =>
      ∃ bs', SkPost R D c K ((f + k) % c) (n - k) k J bs' w e w' ∧ bs'.length = bs.length ∧ ringQ (bs'.take c) ((f + k) % c) (n - k) = (ringQ (bs.take c) f n).drop k := by
  obtain ⟨c0, c1, c2, _, _⟩ := h.cells
  have hcz : ((c : Int) == 0) = false := by simp; omega
  have hz0 : ∀ w, (zeroValue 5).run Try.prog w = .ok (.int .u8 0) w := fun _ => by kernel_rfl
  have hi0 : ∀ (x0 x1 : Value) (w : World), (Instr.index 142 (.agg #[x0, x1]) (.int .i64 0)).run Try.prog w = .ok x0 w := fun _ _ _ => by kernel_rfl
  have hi1 : ∀ (x0 x1 : Value) (w : World), (Instr.index 142 (.agg #[x0, x1]) (.int .i64 1)).run Try.prog w = .ok x1 w := fun _ _ _ => by kernel_rfl
  have hkn : k ≤ n := by omega
  have HLN := Lib.hid hlen
  have hsp : (most ≤ (n : Int) ∧ most = (k : Int)) ∨ ((n : Int) < most ∧ n = k) := by omega
  clear hlen hk
  rcases hsp with ⟨hmin, rfl⟩ | ⟨hmin, rfl⟩
  all_goals
    go_enter Try.func28, Try.ntmps28
    go_wp2_with fail
    refine (zero_at h).mono ?_
    rintro e w' ⟨rfl, rfl⟩
    go_wp2_with fail
    refine (pieces_any h hc hK hf 0 _ _ (by omega) rfl).mono ?_
    rintro e w1 ⟨o1, k1, k2, rfl, hk12, ho, ha1, ha2, hk2c, f1⟩
    have h1 : RgB w1 R D c K f _ := f1.keep h (by simp)
    have b1 : RowJ w1 D bs J := f1.keep hb (by simp)
    have hav : (f + 0) % c = f := by rw [Nat.add_zero]; exact Nat.mod_eq_of_lt hf
    rw [hav] at ho ha1 ha2
    have hln' := HLN.out
    have C4 : f + k1 ≤ bs.length := by omega
    have C6 : 0 + k2 ≤ (splice bs f (List.replicate k1 0)).length := by rw [length_splice _ _ _ (by simp; omega)]; omega
    have hfin := ringQ_skip (bs := bs.take c) (c := c) (f := f) (by rw [List.length_take]; omega) hf hn hkn hk12 (fun _ => rfl) ha1 ha2
    have hspl : (splice (splice bs f (List.replicate k1 0)) 0 (List.replicate k2 0)).take c = splice (splice (bs.take c) f (List.replicate k1 0)) 0 (List.replicate k2 0) := by
      rw [splice_take (by rw [length_splice _ _ _ (by simp; omega)]; exact hln') (by simp; omega), splice_take hln' (by simp; omega)]
    rw [← hspl] at hfin
    have hlen2 : (splice (splice bs f (List.replicate k1 0)) 0 (List.replicate k2 0)).length = bs.length := by
      rw [length_splice _ _ _ (by rw [length_splice _ _ _ (by simp; omega)]; simp; omega), length_splice _ _ _ (by simp; omega)]
    have HF := Lib.hid hfin
    have HL2 := Lib.hid hlen2
    have HO := Lib.hid ho
    have H12 := Lib.hid hk12
    clear hspl hfin hlen2 hln' hav ho hk12 hmin h hb c0 c1 c2
    go_wp2_with fail
    refine wp_loop_rounds 3 ?_
    rw [rounds_succ]
    go_wp2_with (refine wpList_clear_fj rfl (.tmp 27) _ rfl 5 Try.underlying29 hz0 (some ⟨D, o1, none⟩) k1 k1 (by exact rfl) D f bs J b1 (fun h => by rw [HO.out h]) C4 ?_)
    intro w2 hr2 f2
    have b2 := hr2.out
    have h2 : RgB w2 R D c K f _ := f2.keep h1 (by simp only [List.mem_singleton]; exact hRD)
    clear hr2 b1 h1
    go_wp2_with fail
    rw [rounds_succ]
    go_wp2_with (refine wpList_clear_fj rfl (.tmp 27) _ rfl 5 Try.underlying29 hz0 (some ⟨D, 0, none⟩) k2 k2 (by exact rfl) D 0 _ J b2 (fun _ => rfl) C6 ?_)
    intro w3 hr3 f3
    have h3 : RgB w3 R D c K f _ := f3.keep h2 (by simp only [List.mem_singleton]; exact hRD)
    clear b2 h2
    obtain ⟨c0, c1, c2, g1, g2⟩ := h3.cells
    go_wp2_with fail
    rw [rounds_succ]
    go_wp2_with fail
    go_region
    go_wp2_with fail
    go_ret2
    refine ⟨_, ⟨rfl, ?_, ?_, ?_⟩, HL2.out, HF.out⟩
    · have F3 : Fr [R, D] w w3 := (((f1.mono (by simp)).trans f2 (fun _ h => .inl h) (by simp)).trans f3 (fun _ h => .inl h) (by simp))
      repeat first | (with_reducible exact F3) | (with_reducible refine Fr.drew ?_) | (with_reducible refine Fr.setCell ?_ (.inl (by simp)) _)
    · unfold RgB
      first
        | (rw [show ((n - k : Nat) : Int) = (n : Int) - k from by omega, show (((f + k) % c : Nat) : Int) = ((f : Int) + k) % c from by simp]; exact heap_setCell_eq (i := 2) (heap_setCell_eq (i := 1) h3))
        | (rw [Nat.sub_self, show (((f + n) % c : Nat) : Int) = ((f : Int) + n) % c from by simp]; exact heap_setCell_eq (i := 2) (heap_setCell_eq (i := 1) h3))
    · exact keepS (keepS hr3.out (by dsimp only; omega)) (by dsimp only; omega)
end Go.Proofs.Ytpkgjgfdobcboaa
