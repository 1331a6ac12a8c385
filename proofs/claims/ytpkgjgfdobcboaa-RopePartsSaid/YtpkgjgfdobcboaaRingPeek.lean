/-
  ring: Peek.
-/
import Derived.Test.YtpkgjgfdobcboaaRingOps
namespace Go.Proofs.Ytpkgjgfdobcboaa
open Go.RowKit
set_option maxRecDepth 100000

theorem madeCells_bytes (m : Nat) : madeCells #[Value.int .u8 0] m = ((List.replicate m (0 : Int)).map (Value.int .u8)).toArray := by
  apply Array.ext
  · simp [madeCells]
  · intro i h1 h2
    simp [madeCells, Nat.mod_one]

/-- What Peek leaves: new memory. -/
def PkPost (out : List Int) (w : World) (e : Ending) (w' : World) : Prop :=
  ∃ N : Nat, e = .returned (.tuple #[.slice (some ⟨N, 0, none⟩) out.length out.length, .int .i64 0]) ∧ Fr [] w w' ∧ RowB w' N out ∧ w.heap.size ≤ N

theorem cutp_at {N m l : Nat} (h : m ≠ l) : cutp (some ⟨N, 0, none⟩) m l = some ⟨N, l, none⟩ := by
  unfold cutp
  rw [if_neg h]
  simp [Addr.add_lit]

theorem run_cutl {pa : Option Addr} {plen pcap l : Nat} (hl : l ≤ plen) (w : World) :
    (Instr.slice 29 (.slice pa plen pcap) (some (.int .i64 l)) none none).run Try.prog w = .ok (.slice (cutp pa pcap l) (plen - l) (pcap - l)) w := by
  have hs : ∀ w, (sizeOf (Try.prog.elem 29)).run Try.prog w = .ok 1 w := fun _ => by kernel_rfl
  have h1 := run_slice_l (P := Try.prog) (w := w) (t := 29) (a := pa) (len := plen) (cap := pcap) (by kernel_rfl) .i64 (l : Int) (by omega) (by omega)
  rw [h1, hs]
  simp [Result.andThen, sliced, cutp]

theorem splice_two {X1 X2 : List Int} {m k1 k2 : Nat} (h1 : X1.length = k1) (h2 : X2.length = k2) (h : k1 + k2 = m) : splice (splice (List.replicate m 0) 0 X1) k1 X2 = X1 ++ X2 := by
  unfold splice
  simp only [List.take_zero, List.nil_append, Nat.zero_add, h1, h2]
  rw [List.take_append_of_le_length (by omega), List.take_of_length_le (by omega), List.drop_eq_nil_of_le (by simp; omega), List.append_nil]

set_option maxHeartbeats 1000000 in
theorem peek_ok {w : World} {R D c K f n off m : Nat} {bs : List Int} {J : List Value} {most : Int} (h : RgB w R D c K f n) (hb : RowJ w D bs J) (hlen : c ≤ bs.length) (hc : c ≤ 4096) (hK : c ≤ K) (hf : f < c) (hn : n ≤ c) (hm0 : 0 ≤ most) (hoff : off < n) (hm : (m : Int) = min most (n - off)) :
    Calls Try.prog 36 #[.pointer (some ⟨R, 0, none⟩), .int .i64 off, .int .i64 most] w (PkPost (((ringQ (bs.take c) f n).drop off).take m) w) := by
  obtain ⟨c0, c1, c2, _, _⟩ := h.cells
  have hL := lt_of_heap h
  have hDl := lt_of_heap hb
  have hsz : (Try.prog.info? 5).map (·.size) = some 1 := by kernel_rfl
  have hi0 : ∀ (x0 x1 : Value) (w : World), (Instr.index 142 (.agg #[x0, x1]) (.int .i64 0)).run Try.prog w = .ok x0 w := fun _ _ _ => by kernel_rfl
  have hi1 : ∀ (x0 x1 : Value) (w : World), (Instr.index 142 (.agg #[x0, x1]) (.int .i64 1)).run Try.prog w = .ok x1 w := fun _ _ _ => by kernel_rfl
  have hmn : off + m ≤ n := by omega
  have hmk := run_make_row' (P := Try.prog) 29 5 (.int .u8 0) 1 Try.underlying29 (by kernel_rfl) rfl .i64 .i64 m (by omega) (by omega)
  have HLN := Lib.hid hlen
  have hsp : (most ≤ (n : Int) - off ∧ most = (m : Int)) ∨ ((n : Int) - off < most ∧ (n : Int) - off = (m : Int)) := by omega
  clear hlen hm
  rcases hsp with ⟨hmin, rfl⟩ | ⟨hmin, hkk⟩
  all_goals
    go_enter Try.func36, Try.ntmps36
    go_wp2_with fail
    refine (zero_at h).mono ?_
    rintro e w' ⟨rfl, rfl⟩
    go_wp2_with fail
    have hA : RgB (w.alloc (Obj.cells (madeCells #[Value.int IntKind.u8 0] m) 5)) R D c K f n := keepA h
    have hDB : RowJ (w.alloc (Obj.cells (madeCells #[Value.int IntKind.u8 0] m) 5)) D bs J := keepA hb
    have hNB : RowB (w.alloc (Obj.cells (madeCells #[Value.int IntKind.u8 0] m) 5)) w.heap.size (List.replicate m 0) := by
      unfold RowB; rw [← madeCells_bytes]; exact newA rfl
    have hFr : Fr [] w (w.alloc (Obj.cells (madeCells #[Value.int IntKind.u8 0] m) 5)) := (Fr.refl _ _).alloc _
    have hNs : w.heap.size ≤ w.heap.size := Nat.le_refl _
    have hDN : D ≠ w.heap.size := by omega
    generalize (w.alloc (Obj.cells (madeCells #[Value.int IntKind.u8 0] m) 5)) = wa at *
    generalize hNN : w.heap.size = N at hNB hNs hDN ⊢
    have hNs' : w.heap.size ≤ N := by omega
    clear hNN hNs
    refine (pieces_any hA hc hK hf off m _ (by omega) rfl).mono ?_
    rintro e w1 ⟨o1, k1, k2, rfl, hk12, ho, ha1, ha2, hk2c, f1⟩
    have h1 : RgB w1 R D c K f n := f1.keep hA (by simp)
    have b1 : RowJ w1 D bs J := f1.keep hDB (by simp)
    have r1 : RowB w1 N (List.replicate m 0) := f1.keep hNB (by simp)
    have hln' := HLN.out
    have hav' : 0 < m → (f + off) % c = idx c f off := fun h0 => mod_idx hf (by omega)
    generalize (f + off) % c = av at *
    have L1 : ((bs.drop av).take k1).length = k1 := by simp; omega
    have L2 : (bs.take k2).length = k2 := by simp; omega
    have S1 : Sl w1 (some ⟨D, o1, none⟩) ((bs.drop av).take k1) := fun h0 => ⟨D, o1, rfl, lt_of_heap b1, fun i hi => by
      rw [L1] at h0 hi
      rw [ho h0, getD_take _ _ _ hi, getD_drop]
      exact b1.cell (by omega)⟩
    have hfin := ringQ_peek (bs := bs.take c) (n := n) (m := m) (by rw [List.length_take]; omega) hf hn hmn hk12 hav' ha1 ha2
    have ec1 : ((bs.take c).drop av).take k1 = (bs.drop av).take k1 := by rw [List.drop_take, List.take_take, Nat.min_eq_left (by omega)]
    have ec2 : (bs.take c).take k2 = bs.take k2 := by rw [List.take_take, Nat.min_eq_left (by omega)]
    rw [ec1, ec2] at hfin
    clear ec1 ec2
    have C4 : 0 + k1 ≤ (List.replicate m (0 : Int)).length := by simp; omega
    have C6 : k1 + k2 ≤ (splice (List.replicate m 0) 0 ((bs.drop av).take k1)).length := by rw [length_splice _ _ _ (by rw [L1]; exact C4)]; simp; omega
    have hsp2 := splice_two (X1 := (bs.drop av).take k1) (X2 := bs.take k2) (m := m) L1 L2 hk12
    rw [hfin] at hsp2
    have hs0 : ∀ w, (Instr.slice 29 (.slice (some ⟨N, 0, none⟩) m m) (some (.int .i64 0)) none none).run Try.prog w = .ok (.slice (cutp (some ⟨N, 0, none⟩) m 0) m m) w := fun w => run_cutl (pa := some ⟨N, 0, none⟩) (plen := m) (pcap := m) (l := 0) (by omega) w
    have hs1 : ∀ w, (Instr.slice 29 (.slice (some ⟨N, 0, none⟩) m m) (some (.int .i64 k1)) none none).run Try.prog w = .ok (.slice (cutp (some ⟨N, 0, none⟩) m k1) k2 k2) w := fun w => by
      have := run_cutl (pa := some ⟨N, 0, none⟩) (plen := m) (pcap := m) (l := k1) (by omega) w
      rw [show m - k1 = k2 from by omega] at this; exact this
    have K0 : 0 < k1 → cutp (some ⟨N, 0, none⟩) m 0 = some ⟨N, 0, none⟩ := fun h0 => cutp_at (by omega)
    have K1 : 0 < k2 → cutp (some ⟨N, 0, none⟩) m k1 = some ⟨N, k1, none⟩ := fun h0 => cutp_at (by omega)
    have Cn : k1 = Nat.min k1 m := by simp [Nat.min_def]; omega
    have Cm : k2 = Nat.min k2 k2 := by simp
    have S2 : ∀ wx, RowJ wx D bs J → Sl wx (some ⟨D, 0, none⟩) (bs.take k2) := fun wx hx h0 => ⟨D, 0, rfl, lt_of_heap hx, fun i hi => by
      rw [L2] at h0 hi
      rw [Nat.zero_add, getD_take _ _ _ hi]
      exact hx.cell (by omega)⟩
    have hq : (((ringQ (bs.take c) f n).drop off).take m).length = m := by simp [ringQ_length]; omega
    have HQ := Lib.hid hq
    have HS := Lib.hid hsp2
    have HL1 := Lib.hid L1
    have HLL := Lib.hid L2
    have HCn := Lib.hid Cn
    have HCm := Lib.hid Cm
    have HK0 := Lib.hid K0
    have HK1 := Lib.hid K1
    have H12 := Lib.hid hk12
    have HS2 := Lib.hid S2
    clear hln' hav' L1 L2 hfin hsp2 Cn Cm K0 K1 hk12 S2 hq h hb hA hDB hNB c0 c1 c2 hmk
    generalize ((ringQ (bs.take c) f n).drop off).take m = out at *
    obtain ⟨X1, hX1⟩ : ∃ X1, X1 = (bs.drop av).take k1 := ⟨_, rfl⟩
    obtain ⟨X2, hX2⟩ : ∃ X2, X2 = bs.take k2 := ⟨_, rfl⟩
    rw [← hX1] at S1 HL1 C6 HS
    rw [← hX2] at HLL HS HS2
    clear hX1 hX2
    go_wp2_with fail
    refine wp_loop_rounds 3 ?_
    rw [rounds_succ]
    go_wp2_with (refine wpList_copy_fr rfl (.tmp 49) (.tmp 50) _ _ rfl 5 Try.underlying29 hsz (cutp (some ⟨N, 0, none⟩) m 0) (some ⟨D, o1, none⟩) m m k1 k1 (by exact rfl) (by exact rfl) N 0 (List.replicate m 0) r1 X1 k1 HL1.out HCn.out HK0.out S1 C4 ?_)
    intro w2 hr2 f2
    have r2 := hr2.out
    have h2 : RgB w2 R D c K f n := f2.keep h1 (by simp only [List.mem_singleton]; have := lt_of_heap h1; have := f1.size; omega)
    have b2 : RowJ w2 D bs J := f2.keep b1 (by simp only [List.mem_singleton]; exact hDN)
    have S2 := HS2.out _ b2
    clear hr2 hs0 S1 b1 h1 r1
    go_wp2_with fail
    rw [rounds_succ]
    go_wp2_with (refine wpList_copy_fr rfl (.tmp 49) (.tmp 50) _ _ rfl 5 Try.underlying29 hsz (cutp (some ⟨N, 0, none⟩) m k1) (some ⟨D, 0, none⟩) k2 k2 k2 k2 (by exact rfl) (by exact rfl) N k1 _ r2 X2 k2 HLL.out HCm.out HK1.out S2 C6 ?_)
    intro w3 hr3 f3
    clear hs1 C6 S2 b2 h2 r2
    go_wp2_with fail
    rw [rounds_succ]
    go_wp2_with fail
    go_ret2
    have hr4 := hr3.out
    rw [HS.out] at hr4
    refine ⟨N, by rw [HQ.out]; rfl, ?_, hr4, hNs'⟩
    exact ((hFr.then0 f1).then1 f2 (.inr hNs')).then1 f3 (.inr hNs')
end Go.Proofs.Ytpkgjgfdobcboaa
