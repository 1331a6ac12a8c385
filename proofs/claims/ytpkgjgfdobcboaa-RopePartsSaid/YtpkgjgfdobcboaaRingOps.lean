/-
  Contracts of package ring's methods.
-/
import Derived.Test.YtpkgjgfdobcboaaRing
import Derived.Test.YtpkgjgfdobcboaaRingMath
import Derived.LoopN
namespace Go.Proofs.Ytpkgjgfdobcboaa
open Go.RowKit
set_option maxRecDepth 100000

/-- The two pieces, whichever way: k1 bytes from a on, k2 from the beginning on. -/
def PcPost (D c a k : Nat) (w : World) (e : Ending) (w' : World) : Prop :=
  ∃ o1 k1 k2 : Nat, e = .returned (.agg #[.slice (some ⟨D, o1, none⟩) k1 k1, .slice (some ⟨D, 0, none⟩) k2 k2]) ∧ k1 + k2 = k ∧ (0 < k1 → o1 = a) ∧ a + k1 ≤ c ∧ (0 < k2 → a + k1 = c) ∧ k2 ≤ c ∧ Fr [] w w'

theorem pieces_any {w : World} {R D c K f n : Nat} (h : RgB w R D c K f n) (hc : c ≤ 4096) (hK : c ≤ K) (hf : f < c) (off k a : Nat) (hok : off + k ≤ c) (ha : (f + off) % c = a) :
    Calls Try.prog 94 #[.pointer (some ⟨R, 0, none⟩), .int .i64 off, .int .i64 k] w (PcPost D c a k w) := by
  have hac : a < c := by rw [← ha]; exact Nat.mod_lt _ (by omega)
  by_cases h0 : k = 0
  · subst h0
    exact (pieces_none h hc hK hf off a (by omega) ha).mono fun e w' ⟨he, hf⟩ => ⟨0, 0, 0, he, rfl, by omega, by omega, by omega, by omega, hf⟩
  · by_cases h1 : a + k ≤ c
    · exact (pieces_one h hc hK hf off k a hok ha (by omega) h1).mono fun e w' ⟨he, hf⟩ => ⟨a, k, 0, he, rfl, fun _ => rfl, h1, by omega, by omega, hf⟩
    · exact (pieces_two h hc hK hf off k a hok ha (by omega)).mono fun e w' ⟨he, hf⟩ => ⟨a, c - a, k - (c - a), he, by omega, fun _ => rfl, by omega, by omega, by omega, hf⟩

theorem len_at {w : World} {R D c K f n : Nat} (h : RgB w R D c K f n) : Calls Try.prog 26 #[.pointer (some ⟨R, 0, none⟩)] w fun e w' => e = .returned (.int .i64 n) ∧ w = w' := by
  obtain ⟨c0, c1, c2, _, _⟩ := h.cells
  go_enter Try.func26, Try.ntmps26
  go_wp2_with (go_at_call 93; refine (zero_at h).mono ?_; rintro e w' ⟨rfl, rfl⟩)
  go_ret
  exact ⟨rfl, rfl⟩
theorem cap_at {w : World} {R D c K f n : Nat} (h : RgB w R D c K f n) : Calls Try.prog 32 #[.pointer (some ⟨R, 0, none⟩)] w fun e w' => e = .returned (.int .i64 c) ∧ w = w' := by
  obtain ⟨c0, c1, c2, _, _⟩ := h.cells
  go_enter Try.func32, Try.ntmps32
  go_wp2_with (go_at_call 93; refine (zero_at h).mono ?_; rintro e w' ⟨rfl, rfl⟩)
  go_ret
  exact ⟨rfl, rfl⟩
theorem free_at {w : World} {R D c K f n : Nat} (h : RgB w R D c K f n) (hc : c ≤ 4096) (hn : n ≤ c) : Calls Try.prog 27 #[.pointer (some ⟨R, 0, none⟩)] w fun e w' => e = .returned (.int .i64 ((c : Int) - n)) ∧ w = w' := by
  go_enter Try.func27, Try.ntmps27
  go_wp2_with (first | (go_at_call 32; refine (cap_at h).mono ?_; rintro e w' ⟨rfl, rfl⟩) | (go_at_call 26; refine (len_at h).mono ?_; rintro e w' ⟨rfl, rfl⟩))
  go_ret
  exact ⟨rfl, rfl⟩

/-- A slice of a slice of bytes. -/
def cutp (pa : Option Addr) (cap l : Nat) : Option Addr := if cap = l then pa else pa.map (·.add l)
theorem cutp_sl {w : World} {pa : Option Addr} {ps : List Int} {cap l k : Nat} (h : Sl w pa ps) (hcap : ps.length ≤ cap) (hk : l + k ≤ ps.length) : Sl w (cutp pa cap l) ((ps.drop l).take k) := by
  intro h0
  have hl : ((ps.drop l).take k).length = k := by simp; omega
  rw [hl] at h0
  obtain ⟨b, o, rfl, hb, hc⟩ := h (by omega)
  refine ⟨b, o + l, ?_, hb, fun i hi => ?_⟩
  · unfold cutp
    rw [if_neg (by omega)]
    simp [Addr.add_lit]
  · rw [hl] at hi
    rw [Nat.add_assoc, hc (l + i) (by omega), getD_take _ _ _ hi, getD_drop]

theorem run_cutp {pa : Option Addr} {plen pcap l h : Nat} (hl : l ≤ h) (hh : h ≤ pcap) (w : World) :
    (Instr.slice 29 (.slice pa plen pcap) (some (.int .i64 l)) (some (.int .i64 h)) none).run Try.prog w = .ok (.slice (cutp pa pcap l) (h - l) (pcap - l)) w := by
  have hs : ∀ w, (sizeOf (Try.prog.elem 29)).run Try.prog w = .ok 1 w := fun _ => by kernel_rfl
  have h1 := run_slice_lh (P := Try.prog) (w := w) (t := 29) (a := pa) (len := plen) (cap := pcap) (by kernel_rfl) .i64 .i64 (l : Int) (h : Int) (by omega) (by omega) (by omega)
  rw [h1, hs]
  simp [Result.andThen, sliced, cutp]

theorem sl_keep {w w' : World} {pa : Option Addr} {ps : List Int} (h : Sl w pa ps) {S : List Nat} (hf : Fr S w w') (hS : 0 < ps.length → ∀ b o, pa = some ⟨b, o, none⟩ → b ∉ S) : Sl w' pa ps := by
  intro h0
  obtain ⟨b, o, rfl, hb, hc⟩ := h h0
  exact ⟨b, o, rfl, Nat.lt_of_lt_of_le hb hf.size, fun i hi => (World.cell?_of_block (w := w) (hf.block b hb (hS h0 b o rfl))).trans (hc i hi)⟩

/-- What Write leaves. -/
def WrPost (R D c K f n k : Nat) (J : List Value) (bs' : List Int) (w : World) (e : Ending) (w' : World) : Prop :=
  e = .returned (.tuple #[.int .i64 k, .int .i64 0]) ∧ Fr [R, D] w w' ∧ RgB w' R D c K f (n + k) ∧ RowJ w' D bs' J

theorem write_ok {w : World} {R D c K f n k : Nat} {bs ps : List Int} {J : List Value} (h : RgB w R D c K f n) (hb : RowJ w D bs J) (hlen : c ≤ bs.length) (hc : c ≤ 4096) (hK : c ≤ K) (hf : f < c) (hn : n ≤ c) (hRD : R ≠ D)
    {pa : Option Addr} {plen pcap : Nat} (hpl : plen = ps.length) (hcap : plen ≤ pcap) (hsl : Sl w pa ps) (hpd : 0 < ps.length → ∀ b o, pa = some ⟨b, o, none⟩ → b ≠ D) (hmax : plen ≤ 65536) (hk : k = min plen (c - n)) :
    Calls Try.prog 25 #[.pointer (some ⟨R, 0, none⟩), .slice pa plen pcap] w fun e w' =>
      ∃ bs', WrPost R D c K f n k J bs' w e w' ∧ bs'.length = bs.length ∧ ringQ (bs'.take c) f (n + k) = ringQ (bs.take c) f n ++ ps.take k := by

  obtain ⟨c0, c1, c2, _, _⟩ := h.cells
  have hcn : (((c : Int) - n) : Int) = ((c - n : Nat) : Int) := by omega
  have hmi : min (plen : Int) ((c : Int) - n) = (k : Int) := by omega
  have HM := Lib.hid hmi
  have HK := Lib.hid hk
  have hk1 : k ≤ plen := by omega
  have hk2 : n + k ≤ c := by omega
  have HPL := Lib.hid hpl
  have HLN := Lib.hid hlen
  clear hmi hk hcn hpl hlen
  go_enter Try.func25, Try.ntmps25
  go_wp2_with fail
  refine (zero_at h).mono ?_
  rintro e w' ⟨rfl, rfl⟩
  go_wp2_with fail
  refine (free_at h hc hn).mono ?_
  rintro e w' ⟨rfl, rfl⟩
  have hL := lt_of_heap h
  have hDl := lt_of_heap hb
  have hsz : (Try.prog.info? 5).map (·.size) = some 1 := by kernel_rfl
  have hi0 : ∀ (x0 x1 : Value) (w : World), (Instr.index 142 (.agg #[x0, x1]) (.int .i64 0)).run Try.prog w = .ok x0 w := fun _ _ _ => by kernel_rfl
  have hi1 : ∀ (x0 x1 : Value) (w : World), (Instr.index 142 (.agg #[x0, x1]) (.int .i64 1)).run Try.prog w = .ok x1 w := fun _ _ _ => by kernel_rfl
  have hsp : ((plen : Int) ≤ (c : Int) - n ∧ (plen : Int) = (k : Int)) ∨ ((c : Int) - n < (plen : Int) ∧ (c : Int) - n = (k : Int)) := by have := HM.out; omega
  rcases hsp with ⟨hmin, hkk⟩ | ⟨hmin, hkk⟩
  all_goals
    go_wp2_with fail
    refine (pieces_any h hc hK hf n k _ hk2 rfl).mono ?_
    rintro e w1 ⟨o1, k1, k2, rfl, hk12, ho, ha1, ha2, hk2c, f1⟩
    have h1 : RgB w1 R D c K f n := f1.keep h (by simp)
    have b1 : RowJ w1 D bs J := f1.keep hb (by simp)
    have hsl1 : Sl w1 pa ps := sl_keep hsl f1 (by simp)
    have hpl' := HPL.out
    have hln' := HLN.out
    generalize hav : (f + n) % c = av at *
    have C3 := cutp_sl (cap := pcap) (l := 0) (k := k1) hsl1 (by omega) (by omega)
    rw [List.drop_zero] at C3
    have C4 : av + k1 ≤ bs.length := by omega
    have L1 : (ps.take k1).length = k1 := by simp; omega
    have Cn : k1 = Nat.min k k1 := by simp [Nat.min_def]; omega
    have hs0 : ∀ w, (Instr.slice 29 (.slice pa plen pcap) (some (.int .i64 0)) (some (.int .i64 k)) none).run Try.prog w = .ok (.slice (cutp pa pcap 0) k pcap) w := fun w => run_cutp (pa := pa) (plen := plen) (pcap := pcap) (l := 0) (h := k) (by omega) (by omega) w
    have hs1 : ∀ w, (Instr.slice 29 (.slice pa plen pcap) (some (.int .i64 k1)) (some (.int .i64 k)) none).run Try.prog w = .ok (.slice (cutp pa pcap k1) k2 (pcap - k1)) w := fun w => by
      have := run_cutp (pa := pa) (plen := plen) (pcap := pcap) (l := k1) (h := k) (by omega) (by omega) w
      rw [show k - k1 = k2 from by omega] at this; exact this
    have hsl2 := hsl1
    have C5 : ∀ wx, Sl wx pa ps → Sl wx (cutp pa pcap k1) ((ps.drop k1).take k2) := fun wx h => cutp_sl h (by omega) (by omega)
    have L2 : ((ps.drop k1).take k2).length = k2 := by simp; omega
    have Cm : k2 = Nat.min k2 k2 := by simp
    have C6 : 0 + k2 ≤ (splice bs av (ps.take k1)).length := by rw [length_splice _ _ _ (by omega)]; omega
    have hav' : 0 < k → av = idx c f n := fun h0 => by rw [← hav]; exact mod_idx hf (by omega)
    have hfin := ringQ_write (bs := bs.take c) (X := ps.take k) (c := c) (f := f) (n := n) (k := k) (k1 := k1) (k2 := k2) (a := av) (by rw [List.length_take]; omega) hf (by simp; omega) (by omega) hk12 hav' ha1 ha2
    have e1 : (ps.take k).take k1 = ps.take k1 := by rw [List.take_take, Nat.min_eq_left (by omega)]
    have e2 : (ps.take k).drop k1 = (ps.drop k1).take k2 := by rw [List.drop_take, show k - k1 = k2 from by omega]
    rw [e1, e2] at hfin
    have hspl : (splice (splice bs av (ps.take k1)) 0 ((ps.drop k1).take k2)).take c = splice (splice (bs.take c) av (ps.take k1)) 0 ((ps.drop k1).take k2) := by
      rw [splice_take (by rw [length_splice _ _ _ (by omega)]; exact hln') (by omega), splice_take hln' (by omega)]
    rw [← hspl] at hfin
    have hlen2 : (splice (splice bs av (ps.take k1)) 0 ((ps.drop k1).take k2)).length = bs.length := by rw [length_splice _ _ _ (by rw [length_splice _ _ _ (by omega)]; omega), length_splice _ _ _ (by omega)]
    have HF := Lib.hid hfin
    have HL2 := Lib.hid hlen2
    have HL1 := Lib.hid L1
    have HLL := Lib.hid L2
    have HCn := Lib.hid Cn
    have HCm := Lib.hid Cm
    have HAV := Lib.hid hav
    have HAV' := Lib.hid hav'
    have H12 := Lib.hid hk12
    clear hkk hmin hspl hfin hlen2 L1 L2 Cn Cm hav hav' hk12 hpl' hln' e1 e2 h hb hsl hsl1 c0 c1 c2
    obtain ⟨X1, hX1⟩ : ∃ X1, X1 = ps.take k1 := ⟨_, rfl⟩
    obtain ⟨X2, hX2⟩ : ∃ X2, X2 = (ps.drop k1).take k2 := ⟨_, rfl⟩
    rw [← hX1] at C3 HF HL2 HL1 C6
    rw [← hX2] at HF HL2 HLL
    rw [← hX2] at C5
    clear hX1 hX2
    go_wp2_with fail
    refine wp_loop_rounds 3 ?_
    rw [rounds_succ]
    go_wp2_with (refine wpList_copy_fj rfl (.tmp 33) (.tmp 37) _ _ rfl 5 Try.underlying29 hsz (some ⟨D, o1, none⟩) (cutp pa pcap 0) k1 k1 k pcap (by exact rfl) (by exact rfl) D av bs J b1 X1 k1 HL1.out HCn.out (fun h => by rw [ho h]) C3 C4 ?_)
    intro w2 hr2 f2
    have b2 := hr2.out
    have h2 : RgB w2 R D c K f n := f2.keep h1 (by simp only [List.mem_singleton]; exact hRD)
    have hslw2 : Sl w2 pa ps := sl_keep hsl2 f2 (by intro h0 b o h; simp only [List.mem_singleton]; exact hpd h0 b o h)
    have C7 := C5 _ hslw2
    clear hr2 hs0 C3 b1 h1 hsl2
    go_wp2_with fail
    rw [rounds_succ]
    go_wp2_with (refine wpList_copy_fj rfl (.tmp 33) (.tmp 37) _ _ rfl 5 Try.underlying29 hsz (some ⟨D, 0, none⟩) (cutp pa pcap k1) k2 k2 k2 (pcap - k1) (by exact rfl) (by exact rfl) D 0 (splice bs av X1) J b2 X2 k2 HLL.out HCm.out (fun _ => rfl) C7 C6 ?_)
    intro w3 hr3 f3
    have h3 : RgB w3 R D c K f n := f3.keep h2 (by simp only [List.mem_singleton]; exact hRD)
    clear hs1 C5 C6 C7 hslw2 b2 h2
    obtain ⟨c0, c1, c2, g1, g2⟩ := h3.cells
    go_wp2_with fail
    rw [rounds_succ]
    go_wp2_with fail
    go_ret2
    refine ⟨_, ⟨rfl, ?_, ?_, ?_⟩, HL2.out, HF.out⟩
    · exact ((((f1.mono (by simp)).trans f2 (fun _ h => .inl h) (by simp)).trans f3 (fun _ h => .inl h) (by simp)).setCell (.inl (by simp)) _)
    · exact heap_setCell_eq (i := 2) h3
    · exact keepS hr3.out (by dsimp only; omega)
end Go.Proofs.Ytpkgjgfdobcboaa
