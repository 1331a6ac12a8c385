/-
  Law 15: the calls at any end.
-/
import Derived.Test.YtdoamelhclnphaaRefX
import Derived.Test.YtdoamelhclnphaaRefD15
import Derived.Test.YtdoamelhclnphaaRefE15
import Derived.Test.YtdoamelhclnphaaRefF15
import Derived.Test.YtdoamelhclnphaaDxClose
namespace Go.Proofs.Ytdoamelhclnphaa
open Go.RowKit
set_option maxRecDepth 100000

def finishU (k : Int) (s : DM) : DM × Int × Int := if k = 0 then ({ s with m0 := (endM s.m0).m }, (endM s.m0).n, (endM s.m0).err) else if k = 1 then ({ s with m1 := (endM s.m1).m }, (endM s.m1).n, (endM s.m1).err) else (s, 0, 2)
theorem dx_finish_any {w : World} {F : Nat → Prop} {d : Nat} {s : DM} (h : Dx w F d s) (k : Int) :
    Calls Try.prog 13 #[.pointer (some ⟨d, 0, none⟩), .int .i64 k] w fun e w' => e = .returned (.tuple #[.int .i64 (finishU k s).2.1, .int .i64 (finishU k s).2.2]) ∧ DxQ w F NoG d (finishU k s).1 w' := by
  have hd := h
  obtain ⟨b0, b1, F0, F1, h⟩ := h
  unfold finishU
  by_cases h0 : k = 0
  · subst h0
    exact dx_finish0 h
  · by_cases h1 : k = 1
    · subst h1
      exact dx_finish1 h
    · rw [if_neg h0, if_neg h1]
      refine (dx_finish_no h.b k (by omega)).mono ?_
      rintro e w' ⟨he, rfl⟩
      exact ⟨he, DxQ.same hd (Fr.refl _ _)⟩
theorem r15_finish_any {w : World} {N : Nat → Prop} {v : Value} {s : DM} (h : Cv w N v s) (k : Int) :
    Calls Try.prog 104 #[v, .int .i64 k] w fun e w' => ∃ v', e = .returned (.tuple #[v', .int .i64 (finishU k s).2.1, .int .i64 (finishU k s).2.2]) ∧ Fr [] w w' ∧ Cv w' (fun x => N x ∨ w.heap.size ≤ x) v' (finishU k s).1 := by
  unfold finishU
  by_cases h0 : k = 0
  · subst h0
    exact r15_finish0 h
  · by_cases h1 : k = 1
    · subst h1
      exact r15_finish1 h
    · rw [if_neg h0, if_neg h1]
      refine (r15_finish_no h k (by omega)).mono ?_
      rintro e w' ⟨v', he, f, hc⟩
      exact ⟨v', he, f, hc.mono (fun x hx => .inl hx)⟩
def cancelU (k : Int) (s : DM) : DM × Int × Int := if k = 0 then ({ s with m0 := (cancelM s.m0).m }, (cancelM s.m0).n, (cancelM s.m0).err) else if k = 1 then ({ s with m1 := (cancelM s.m1).m }, (cancelM s.m1).n, (cancelM s.m1).err) else (s, 0, 2)
theorem dx_cancel_any {w : World} {F : Nat → Prop} {d : Nat} {s : DM} (h : Dx w F d s) (k : Int) :
    Calls Try.prog 14 #[.pointer (some ⟨d, 0, none⟩), .int .i64 k] w fun e w' => e = .returned (.tuple #[.int .i64 (cancelU k s).2.1, .int .i64 (cancelU k s).2.2]) ∧ DxQ w F NoG d (cancelU k s).1 w' := by
  have hd := h
  obtain ⟨b0, b1, F0, F1, h⟩ := h
  unfold cancelU
  by_cases h0 : k = 0
  · subst h0
    exact dx_cancel0 h
  · by_cases h1 : k = 1
    · subst h1
      exact dx_cancel1 h
    · rw [if_neg h0, if_neg h1]
      refine (dx_cancel_no h.b k (by omega)).mono ?_
      rintro e w' ⟨he, rfl⟩
      exact ⟨he, DxQ.same hd (Fr.refl _ _)⟩
theorem r15_cancel_any {w : World} {N : Nat → Prop} {v : Value} {s : DM} (h : Cv w N v s) (k : Int) :
    Calls Try.prog 105 #[v, .int .i64 k] w fun e w' => ∃ v', e = .returned (.tuple #[v', .int .i64 (cancelU k s).2.1, .int .i64 (cancelU k s).2.2]) ∧ Fr [] w w' ∧ Cv w' (fun x => N x ∨ w.heap.size ≤ x) v' (cancelU k s).1 := by
  unfold cancelU
  by_cases h0 : k = 0
  · subst h0
    exact r15_cancel0 h
  · by_cases h1 : k = 1
    · subst h1
      exact r15_cancel1 h
    · rw [if_neg h0, if_neg h1]
      refine (r15_cancel_no h k (by omega)).mono ?_
      rintro e w' ⟨v', he, f, hc⟩
      exact ⟨v', he, f, hc.mono (fun x hx => .inl hx)⟩
def closewU (k : Int) (s : DM) : DM × Int := if k = 0 then ({ s with m0 := (closewM s.m0 13).m }, (closewM s.m0 13).err) else if k = 1 then ({ s with m1 := (closewM s.m1 13).m }, (closewM s.m1 13).err) else (s, 2)
theorem dx_closew_any {w : World} {F : Nat → Prop} {d : Nat} {s : DM} (h : Dx w F d s) (k : Int) :
    Calls Try.prog 19 #[.pointer (some ⟨d, 0, none⟩), .int .i64 k] w fun e w' => e = .returned (.int .i64 (closewU k s).2) ∧ DxQ w F NoG d (closewU k s).1 w' := by
  have hd := h
  obtain ⟨b0, b1, F0, F1, h⟩ := h
  unfold closewU
  by_cases h0 : k = 0
  · subst h0
    exact dx_closewrite0 h
  · by_cases h1 : k = 1
    · subst h1
      exact dx_closewrite1 h
    · rw [if_neg h0, if_neg h1]
      refine (dx_closewrite_no h.b k (by omega)).mono ?_
      rintro e w' ⟨he, rfl⟩
      exact ⟨he, DxQ.same hd (Fr.refl _ _)⟩
theorem r15_closew_any {w : World} {N : Nat → Prop} {v : Value} {s : DM} (h : Cv w N v s) (k : Int) :
    Calls Try.prog 107 #[v, .int .i64 k] w fun e w' => ∃ v', e = .returned (.tuple #[v', .int .i64 (closewU k s).2]) ∧ Fr [] w w' ∧ Cv w' (fun x => N x ∨ w.heap.size ≤ x) v' (closewU k s).1 := by
  unfold closewU
  by_cases h0 : k = 0
  · subst h0
    exact r15_closewrite0 h
  · by_cases h1 : k = 1
    · subst h1
      exact r15_closewrite1 h
    · rw [if_neg h0, if_neg h1]
      refine (r15_closewrite_no h k (by omega)).mono ?_
      rintro e w' ⟨v', he, f, hc⟩
      exact ⟨v', he, f, hc.mono (fun x hx => .inl hx)⟩
def closerU (k : Int) (s : DM) : DM × Int := if k = 0 then ({ s with m1 := (closerM s.m1 14).m }, (closerM s.m1 14).err) else if k = 1 then ({ s with m0 := (closerM s.m0 14).m }, (closerM s.m0 14).err) else (s, 2)
theorem dx_closer_any {w : World} {F : Nat → Prop} {d : Nat} {s : DM} (h : Dx w F d s) (k : Int) :
    Calls Try.prog 18 #[.pointer (some ⟨d, 0, none⟩), .int .i64 k] w fun e w' => e = .returned (.int .i64 (closerU k s).2) ∧ DxQ w F NoG d (closerU k s).1 w' := by
  have hd := h
  obtain ⟨b0, b1, F0, F1, h⟩ := h
  unfold closerU
  by_cases h0 : k = 0
  · subst h0
    exact dx_closeread0 h
  · by_cases h1 : k = 1
    · subst h1
      exact dx_closeread1 h
    · rw [if_neg h0, if_neg h1]
      refine (dx_closeread_no h.b k (by omega)).mono ?_
      rintro e w' ⟨he, rfl⟩
      exact ⟨he, DxQ.same hd (Fr.refl _ _)⟩
theorem r15_closer_any {w : World} {N : Nat → Prop} {v : Value} {s : DM} (h : Cv w N v s) (k : Int) :
    Calls Try.prog 108 #[v, .int .i64 k] w fun e w' => ∃ v', e = .returned (.tuple #[v', .int .i64 (closerU k s).2]) ∧ Fr [] w w' ∧ Cv w' (fun x => N x ∨ w.heap.size ≤ x) v' (closerU k s).1 := by
  unfold closerU
  by_cases h0 : k = 0
  · subst h0
    exact r15_closeread0 h
  · by_cases h1 : k = 1
    · subst h1
      exact r15_closeread1 h
    · rw [if_neg h0, if_neg h1]
      refine (r15_closeread_no h k (by omega)).mono ?_
      rintro e w' ⟨v', he, f, hc⟩
      exact ⟨v', he, f, hc.mono (fun x hx => .inl hx)⟩
def closeU (k : Int) (s : DM) : DM × Int := if k = 0 then (if s.x0 = true then (s, 14) else (closeS0 s, 0)) else if k = 1 then (if s.x1 = true then (s, 14) else (closeS1 s, 0)) else (s, 2)
theorem dx_close_any {w : World} {F : Nat → Prop} {d : Nat} {s : DM} (h : Dx w F d s) (k : Int) :
    Calls Try.prog 17 #[.pointer (some ⟨d, 0, none⟩), .int .i64 k] w fun e w' => e = .returned (.int .i64 (closeU k s).2) ∧ DxQ w F NoG d (closeU k s).1 w' := by
  have hd := h
  obtain ⟨b0, b1, F0, F1, h⟩ := h
  unfold closeU
  by_cases h0 : k = 0
  · subst h0
    rw [if_pos rfl]
    by_cases hx : s.x0 = true
    · rw [if_pos hx]
      refine (dx_close0_yes h hx).mono ?_
      rintro e w' ⟨he, rfl⟩
      exact ⟨he, DxQ.same hd (Fr.refl _ _)⟩
    · rw [if_neg hx]
      exact dx_close0 h (by simpa using hx)
  · by_cases h1 : k = 1
    · subst h1
      rw [if_neg (by decide), if_pos rfl]
      by_cases hx : s.x1 = true
      · rw [if_pos hx]
        refine (dx_close1_yes h hx).mono ?_
        rintro e w' ⟨he, rfl⟩
        exact ⟨he, DxQ.same hd (Fr.refl _ _)⟩
      · rw [if_neg hx]
        exact dx_close1 h (by simpa using hx)
    · rw [if_neg h0, if_neg h1]
      refine (dx_close_no h.b k (by omega)).mono ?_
      rintro e w' ⟨he, rfl⟩
      exact ⟨he, DxQ.same hd (Fr.refl _ _)⟩
theorem r15_close_any {w : World} {N : Nat → Prop} {v : Value} {s : DM} (h : Cv w N v s) (k : Int) :
    Calls Try.prog 109 #[v, .int .i64 k] w fun e w' => ∃ v', e = .returned (.tuple #[v', .int .i64 (closeU k s).2]) ∧ Fr [] w w' ∧ Cv w' (fun x => N x ∨ w.heap.size ≤ x) v' (closeU k s).1 := by
  unfold closeU
  by_cases h0 : k = 0
  · subst h0
    rw [if_pos rfl]
    by_cases hx : s.x0 = true
    · rw [if_pos hx]
      refine (r15_close0_yes h hx).mono ?_
      rintro e w' ⟨v', he, f, hc⟩
      exact ⟨v', he, f, hc.mono (fun x hx => .inl hx)⟩
    · rw [if_neg hx]
      exact r15_close0 h (by simpa using hx)
  · by_cases h1 : k = 1
    · subst h1
      rw [if_neg (by decide), if_pos rfl]
      by_cases hx : s.x1 = true
      · rw [if_pos hx]
        refine (r15_close1_yes h hx).mono ?_
        rintro e w' ⟨v', he, f, hc⟩
        exact ⟨v', he, f, hc.mono (fun x hx => .inl hx)⟩
      · rw [if_neg hx]
        exact r15_close1 h (by simpa using hx)
    · rw [if_neg h0, if_neg h1]
      refine (r15_close_no h k (by omega)).mono ?_
      rintro e w' ⟨v', he, f, hc⟩
      exact ⟨v', he, f, hc.mono (fun x hx => .inl hx)⟩
def readU (k : Int) (s : DM) (n : Int) : DM × List UInt8 × Int := if k = 0 then ({ s with m1 := (readM s.m1 n).m }, (readM s.m1 n).out, (readM s.m1 n).err) else if k = 1 then ({ s with m0 := (readM s.m0 n).m }, (readM s.m0 n).out, (readM s.m0 n).err) else (s, [], 2)
theorem dx_read_any {w : World} {F : Nat → Prop} {d : Nat} {s : DM} (h : Dx w F d s) (k n : Int) :
    Calls Try.prog 12 #[.pointer (some ⟨d, 0, none⟩), .int .i64 k, .int .i64 n] w fun e w' => ∃ u, e = .returned (.tuple #[u, .int .i64 (readU k s n).2.2]) ∧ Ow w' w.heap.size 5 u ((bi (readU k s n).2.1).map (Value.int .u8)) ∧ DxQ w F NoG d (readU k s n).1 w' := by
  have hd := h
  obtain ⟨b0, b1, F0, F1, h⟩ := h
  unfold readU
  by_cases h0 : k = 0
  · subst h0
    exact dx_read0 h n
  · by_cases h1 : k = 1
    · subst h1
      exact dx_read1 h n
    · rw [if_neg h0, if_neg h1]
      refine (dx_read_no h.b k (by omega) n).mono ?_
      rintro e w' ⟨he, rfl⟩
      exact ⟨_, he, Ow.nil _ _ _, DxQ.same hd (Fr.refl _ _)⟩
theorem r15_read_any {w : World} {N : Nat → Prop} {v : Value} {s : DM} (h : Cv w N v s) (k n : Int) (hok : SOk s.m0 ∧ SOk s.m1) :
    Calls Try.prog 106 #[v, .int .i64 k, .int .i64 n] w fun e w' => ∃ v' u, e = .returned (.tuple #[v', u, .int .i64 (readU k s n).2.2]) ∧ Fr [] w w' ∧ Cv w' (fun x => N x ∨ w.heap.size ≤ x) v' (readU k s n).1 ∧ PartV w' (fun x => w.heap.size ≤ x) u (readU k s n).2.1 := by
  unfold readU
  by_cases h0 : k = 0
  · subst h0
    exact r15_read0 h n hok.2
  · by_cases h1 : k = 1
    · subst h1
      exact r15_read1 h n hok.1
    · rw [if_neg h0, if_neg h1]
      refine (r15_read_no h k (by omega) n).mono ?_
      rintro e w' ⟨v', he, f, hc⟩
      exact ⟨v', _, he, f, hc.mono (fun x hx => .inl hx), PartV.nil _ _⟩
def beginU (k : Int) (s : DM) (x : List UInt8) : DM × Int := if k = 0 then ({ s with m0 := (beginM s.m0 x).m }, (beginM s.m0 x).err) else if k = 1 then ({ s with m1 := (beginM s.m1 x).m }, (beginM s.m1 x).err) else (s, 2)
theorem dx_begin_any {w : World} {F : Nat → Prop} {d : Nat} {s : DM} (h : Dx w F d s) (k : Int) {N2 : Nat → Prop} {v : Value} {Q : Parts} (hr : Rp w N2 v Q) (h2 : ∀ x, F x → ¬ N2 x) :
    Calls Try.prog 51 #[.pointer (some ⟨d, 0, none⟩), .int .i64 k, v] w fun e w' => e = .returned (.int .i64 (beginU k s Q.flatten).2) ∧ DxQ w F (fun x => N2 x ∧ x < w.heap.size) d (beginU k s Q.flatten).1 w' := by
  have hd := h
  obtain ⟨b0, b1, F0, F1, h⟩ := h
  unfold beginU
  by_cases h0 : k = 0
  · subst h0
    exact dx_begin0 h hr h2
  · by_cases h1 : k = 1
    · subst h1
      exact dx_begin1 h hr h2
    · rw [if_neg h0, if_neg h1]
      obtain ⟨ra, rc, rfl, _⟩ := id hr
      refine (dx_begin_no h.b k (by omega) ra _ rc _).mono ?_
      rintro e w' ⟨he, f⟩
      exact ⟨he, ⟨[], by simp, f⟩, F, fun x hx => .inl hx, hd.keep0 f⟩
theorem r15_begin_any {w : World} {N N' : Nat → Prop} {v u : Value} {s : DM} {X : List UInt8} (h : Cv w N v s) (k : Int) (hu : PartV w N' u X) (hX : X.length ≤ 1000000) (hok : SOk s.m0 ∧ SOk s.m1) :
    Calls Try.prog 103 #[v, .int .i64 k, u] w fun e w' => ∃ v', e = .returned (.tuple #[v', .int .i64 (beginU k s X).2]) ∧ Fr [] w w' ∧ Cv w' (fun x => N x ∨ w.heap.size ≤ x) v' (beginU k s X).1 := by
  unfold beginU
  by_cases h0 : k = 0
  · subst h0
    exact r15_begin0 h hu hX hok.1
  · by_cases h1 : k = 1
    · subst h1
      exact r15_begin1 h hu hX hok.2
    · rw [if_neg h0, if_neg h1]
      refine (r15_begin_no h k (by omega) u).mono ?_
      rintro e w' ⟨v', he, f, hc⟩
      exact ⟨v', he, f, hc.mono (fun x hx => .inl hx)⟩
end Go.Proofs.Ytdoamelhclnphaa
