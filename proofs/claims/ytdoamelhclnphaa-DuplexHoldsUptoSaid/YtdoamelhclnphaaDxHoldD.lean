/-
  Law 15 in plain words: both directions and what was closed.
-/
import Derived.Test.YtdoamelhclnphaaDxHoldM
namespace Go.Proofs.Ytdoamelhclnphaa

structure HD (s : DM) (B0 B1 R0 R1 : List UInt8) (f0 f1 : Int) (y0 y1 k0 k1 h0 h1 : Bool) : Prop where
  a0 : HY s.m0 B0 R0 f0
  a1 : HY s.m1 B1 R1 f1
  y0 : y0 = s.m0.busy
  y1 : y1 = s.m1.busy
  w0 : s.m0.w ≠ 0 → k0 = true
  w1 : s.m1.w ≠ 0 → k1 = true
  r0 : s.m0.r ≠ 0 → h1 = true
  r1 : s.m1.r ≠ 0 → h0 = true
  x0 : s.x0 = true → k0 = true
  x1 : s.x1 = true → k1 = true
def Some4 (k0 k1 h0 h1 : Bool) : Prop := k0 = true ∨ k1 = true ∨ h0 = true ∨ h1 = true
theorem fillB_w (m : SM) (x : List UInt8) : (beginM m x).m.w = m.w ∧ (beginM m x).m.r = m.r := by
  unfold beginM
  split
  · exact ⟨rfl, rfl⟩
  split
  · exact ⟨rfl, rfl⟩
  split
  · exact ⟨rfl, rfl⟩
  · exact ⟨fill_w _, fill_r _⟩
section
variable {s : DM} {B0 B1 R0 R1 : List UInt8} {f0 f1 : Int} {y0 y1 k0 k1 h0 h1 : Bool}
theorem HD.begin0 (h : HD s B0 B1 R0 R1 f0 f1 y0 y1 k0 k1 h0 h1) {X : List UInt8} (hX : X.length ≤ 65536) (he : (beginM s.m0 X).err = 0) : HD { s with m0 := (beginM s.m0 X).m } (B0.take f0.toNat ++ X) B1 R0 R1 f0 f1 (true) y1 k0 k1 h0 h1 ∧ y0 = false ∧ (beginM s.m0 X).m.busy = true := by
  obtain ⟨h1, h2, h3⟩ := h.a0.begin_ he hX
  exact ⟨⟨h1, h.a1, h3.symm, h.y1, fun q => h.w0 (by rw [← (fillB_w s.m0 X).1]; exact q), h.w1, fun q => h.r0 (by rw [← (fillB_w s.m0 X).2]; exact q), h.r1, h.x0, h.x1⟩, by rw [h.y0, h2], h3⟩
theorem HD.beginNo0 (h : HD s B0 B1 R0 R1 f0 f1 y0 y1 k0 k1 h0 h1) {X : List UInt8} (he : (beginM s.m0 X).err ≠ 0) : { s with m0 := (beginM s.m0 X).m } = s ∧ ((beginM s.m0 X).err = 14 → Some4 k0 k1 h0 h1) := by
  obtain ⟨h1, h2⟩ := h.a0.begin_no he
  refine ⟨by rw [h1], fun q => ?_⟩
  rcases h2 q with h3 | h3
  · exact (.inl (h.w0 h3))
  · exact (.inr (.inr (.inr (h.r0 h3))))
theorem HD.end0 (h : HD s B0 B1 R0 R1 f0 f1 y0 y1 k0 k1 h0 h1) : (({ s with m0 := (endM s.m0).m } = s) ∧ ((endM s.m0).err = 8 ∨ (endM s.m0).err = 16)) ∨ y0 = true ∧ (endM s.m0).n = s.m0.acc ∧ ((endM s.m0).err = 0 ∨ (endM s.m0).err = 14 ∧ Some4 k0 k1 h0 h1) ∧ HD { s with m0 := (endM s.m0).m } B0 B1 R0 R1 (f0 + s.m0.acc) f1 (false) y1 k0 k1 h0 h1 := by
  rcases h.a0.end_ with ⟨h1, h2, h3⟩ | ⟨h1, h2, h3, h4⟩
  · exact .inl ⟨by rw [h1], h3⟩
  · refine .inr ⟨by rw [h.y0, h1], h3, ?_, by rw [h2]; exact ⟨h.a0.stop, h.a1, rfl, h.y1, fun q => h.w0 q, h.w1, fun q => h.r0 q, h.r1, h.x0, h.x1⟩⟩
    rcases h4 with h4 | ⟨h4, h5 | h5⟩
    · exact .inl h4
    · exact .inr ⟨h4, (.inl (h.w0 h5))⟩
    · exact .inr ⟨h4, (.inr (.inr (.inr (h.r0 h5))))⟩
theorem HD.cancel0 (h : HD s B0 B1 R0 R1 f0 f1 y0 y1 k0 k1 h0 h1) : (({ s with m0 := (cancelM s.m0).m } = s) ∧ ((cancelM s.m0).err = 8 ∨ (cancelM s.m0).err = 16)) ∨ y0 = true ∧ (cancelM s.m0).n = s.m0.acc ∧ ((cancelM s.m0).err = 0 ∨ (cancelM s.m0).err = 14 ∧ Some4 k0 k1 h0 h1) ∧ HD { s with m0 := (cancelM s.m0).m } B0 B1 R0 R1 (f0 + s.m0.acc) f1 (false) y1 k0 k1 h0 h1 := by
  rcases HY.cancel_ s.m0 with ⟨h1, h2, h3⟩ | ⟨h1, h2, h3, h4⟩
  · exact .inl ⟨by rw [h1], h3⟩
  · refine .inr ⟨by rw [h.y0, h1], h3, ?_, by rw [h2]; exact ⟨h.a0.stop, h.a1, rfl, h.y1, fun q => h.w0 q, h.w1, fun q => h.r0 q, h.r1, h.x0, h.x1⟩⟩
    rcases h4 with h4 | ⟨h4, h5 | h5⟩
    · exact .inl h4
    · exact .inr ⟨h4, (.inl (h.w0 h5))⟩
    · exact .inr ⟨h4, (.inr (.inr (.inr (h.r0 h5))))⟩
theorem HD.read0 (h : HD s B0 B1 R0 R1 f0 f1 y0 y1 k0 k1 h0 h1) (n : Int) : HD { s with m0 := (readM s.m0 n).m } B0 B1 (R0 ++ (readM s.m0 n).out) R1 f0 f1 y0 y1 k0 k1 h0 h1 ∧ ((readM s.m0 n).err = 13 → k0 = true ∧ (((R0 ++ (readM s.m0 n).out).length : Nat) : Int) = f0 + (readM s.m0 n).m.acc) ∧ ((readM s.m0 n).err = 14 → Some4 k0 k1 h0 h1) := by
  obtain ⟨j1, j2, j3, j4, j5, j6⟩ := h.a0.read_ n
  exact ⟨⟨j1, h.a1, h.y0.trans j2.symm, h.y1, fun q => h.w0 (by rw [← j3]; exact q), h.w1, fun q => h.r0 (by rw [← j4]; exact q), h.r1, h.x0, h.x1⟩, fun q => ⟨h.w0 (j5 q).1, (j5 q).2⟩, fun q => (.inr (.inr (.inr (h.r0 (j6 q)))))⟩
theorem HD.closew0 (h : HD s B0 B1 R0 R1 f0 f1 y0 y1 k0 k1 h0 h1) : ((closewM s.m0 13).err = 0 ∨ (closewM s.m0 13).err = 14) ∧ HD { s with m0 := (closewM s.m0 13).m } B0 B1 R0 R1 f0 f1 y0 y1 (k0 || decide ((closewM s.m0 13).err = 0)) k1 h0 h1 ∧ ((closewM s.m0 13).err = 14 → Some4 (k0 || decide ((closewM s.m0 13).err = 0)) k1 h0 h1) := by
  obtain ⟨j1, j2, j3, j4, j5⟩ := h.a0.closew
  have hk : (k0 || decide ((closewM s.m0 13).err = 0)) = true := by
    rcases j5 with j5 | ⟨_, j5⟩
    · rw [j5]; simp
    · rw [h.w0 j5]; rfl
  refine ⟨j5.imp id And.left, ⟨j1, h.a1, h.y0.trans j2.symm, h.y1, fun _ => hk, h.w1, fun q => h.r0 (by rw [← j3]; exact q), h.r1, fun _ => hk, h.x1⟩, fun _ => (.inl hk)⟩
theorem HD.closer0 (h : HD s B0 B1 R0 R1 f0 f1 y0 y1 k0 k1 h0 h1) : ((closerM s.m0 14).err = 0 ∨ (closerM s.m0 14).err = 14) ∧ HD { s with m0 := (closerM s.m0 14).m } B0 B1 R0 R1 f0 f1 y0 y1 k0 k1 h0 (h1 || decide ((closerM s.m0 14).err = 0)) ∧ ((closerM s.m0 14).err = 14 → Some4 k0 k1 h0 (h1 || decide ((closerM s.m0 14).err = 0))) := by
  obtain ⟨j1, j2, j3, j4, j5⟩ := h.a0.closer
  have hk : (h1 || decide ((closerM s.m0 14).err = 0)) = true := by
    rcases j5 with j5 | ⟨_, j5⟩
    · rw [j5]; simp
    · rw [h.r0 j5]; rfl
  refine ⟨j5.imp id And.left, ⟨j1, h.a1, h.y0.trans j2.symm, h.y1, fun q => h.w0 (by rw [← j3]; exact q), h.w1, fun _ => hk, h.r1, h.x0, h.x1⟩, fun _ => (.inr (.inr (.inr hk)))⟩
theorem HD.close0 (h : HD s B0 B1 R0 R1 f0 f1 y0 y1 k0 k1 h0 h1) : HD (closeS0 s) B0 B1 R0 R1 f0 f1 y0 y1 (true) k1 (true) h1 := by
  obtain ⟨g1, g2, g3, g4, g5⟩ := h.a0.closew
  obtain ⟨j1, j2, j3, j4, j5⟩ := h.a1.closer
  exact ⟨g1, j1, h.y0.trans g2.symm, h.y1.trans j2.symm, fun _ => rfl, fun q => h.w1 (by rw [← j3]; exact q), fun q => h.r0 (by rw [← g3]; exact q), fun _ => rfl, fun _ => rfl, h.x1⟩
theorem HD.tail0 (h : HD s B0 B1 R0 R1 f0 f1 y0 y1 k0 k1 h0 h1) : 0 ≤ s.m0.acc ∧ 0 ≤ f0 ∧ f0 + s.m0.acc ≤ B0.length ∧ (R0.length : Int) ≤ f0 + s.m0.acc ∧ B0.take R0.length = R0 := ⟨h.a0.ok.a0, h.a0.f0, h.a0.le, h.a0.rl, h.a0.p⟩
theorem HD.begin1 (h : HD s B0 B1 R0 R1 f0 f1 y0 y1 k0 k1 h0 h1) {X : List UInt8} (hX : X.length ≤ 65536) (he : (beginM s.m1 X).err = 0) : HD { s with m1 := (beginM s.m1 X).m } B0 (B1.take f1.toNat ++ X) R0 R1 f0 f1 y0 (true) k0 k1 h0 h1 ∧ y1 = false ∧ (beginM s.m1 X).m.busy = true := by
  obtain ⟨h1, h2, h3⟩ := h.a1.begin_ he hX
  exact ⟨⟨h.a0, h1, h.y0, h3.symm, h.w0, fun q => h.w1 (by rw [← (fillB_w s.m1 X).1]; exact q), h.r0, fun q => h.r1 (by rw [← (fillB_w s.m1 X).2]; exact q), h.x0, h.x1⟩, by rw [h.y1, h2], h3⟩
theorem HD.beginNo1 (h : HD s B0 B1 R0 R1 f0 f1 y0 y1 k0 k1 h0 h1) {X : List UInt8} (he : (beginM s.m1 X).err ≠ 0) : { s with m1 := (beginM s.m1 X).m } = s ∧ ((beginM s.m1 X).err = 14 → Some4 k0 k1 h0 h1) := by
  obtain ⟨h1, h2⟩ := h.a1.begin_no he
  refine ⟨by rw [h1], fun q => ?_⟩
  rcases h2 q with h3 | h3
  · exact (.inr (.inl (h.w1 h3)))
  · exact (.inr (.inr (.inl (h.r1 h3))))
theorem HD.end1 (h : HD s B0 B1 R0 R1 f0 f1 y0 y1 k0 k1 h0 h1) : (({ s with m1 := (endM s.m1).m } = s) ∧ ((endM s.m1).err = 8 ∨ (endM s.m1).err = 16)) ∨ y1 = true ∧ (endM s.m1).n = s.m1.acc ∧ ((endM s.m1).err = 0 ∨ (endM s.m1).err = 14 ∧ Some4 k0 k1 h0 h1) ∧ HD { s with m1 := (endM s.m1).m } B0 B1 R0 R1 f0 (f1 + s.m1.acc) y0 (false) k0 k1 h0 h1 := by
  rcases h.a1.end_ with ⟨h1, h2, h3⟩ | ⟨h1, h2, h3, h4⟩
  · exact .inl ⟨by rw [h1], h3⟩
  · refine .inr ⟨by rw [h.y1, h1], h3, ?_, by rw [h2]; exact ⟨h.a0, h.a1.stop, h.y0, rfl, h.w0, fun q => h.w1 q, h.r0, fun q => h.r1 q, h.x0, h.x1⟩⟩
    rcases h4 with h4 | ⟨h4, h5 | h5⟩
    · exact .inl h4
    · exact .inr ⟨h4, (.inr (.inl (h.w1 h5)))⟩
    · exact .inr ⟨h4, (.inr (.inr (.inl (h.r1 h5))))⟩
theorem HD.cancel1 (h : HD s B0 B1 R0 R1 f0 f1 y0 y1 k0 k1 h0 h1) : (({ s with m1 := (cancelM s.m1).m } = s) ∧ ((cancelM s.m1).err = 8 ∨ (cancelM s.m1).err = 16)) ∨ y1 = true ∧ (cancelM s.m1).n = s.m1.acc ∧ ((cancelM s.m1).err = 0 ∨ (cancelM s.m1).err = 14 ∧ Some4 k0 k1 h0 h1) ∧ HD { s with m1 := (cancelM s.m1).m } B0 B1 R0 R1 f0 (f1 + s.m1.acc) y0 (false) k0 k1 h0 h1 := by
  rcases HY.cancel_ s.m1 with ⟨h1, h2, h3⟩ | ⟨h1, h2, h3, h4⟩
  · exact .inl ⟨by rw [h1], h3⟩
  · refine .inr ⟨by rw [h.y1, h1], h3, ?_, by rw [h2]; exact ⟨h.a0, h.a1.stop, h.y0, rfl, h.w0, fun q => h.w1 q, h.r0, fun q => h.r1 q, h.x0, h.x1⟩⟩
    rcases h4 with h4 | ⟨h4, h5 | h5⟩
    · exact .inl h4
    · exact .inr ⟨h4, (.inr (.inl (h.w1 h5)))⟩
    · exact .inr ⟨h4, (.inr (.inr (.inl (h.r1 h5))))⟩
theorem HD.read1 (h : HD s B0 B1 R0 R1 f0 f1 y0 y1 k0 k1 h0 h1) (n : Int) : HD { s with m1 := (readM s.m1 n).m } B0 B1 R0 (R1 ++ (readM s.m1 n).out) f0 f1 y0 y1 k0 k1 h0 h1 ∧ ((readM s.m1 n).err = 13 → k1 = true ∧ (((R1 ++ (readM s.m1 n).out).length : Nat) : Int) = f1 + (readM s.m1 n).m.acc) ∧ ((readM s.m1 n).err = 14 → Some4 k0 k1 h0 h1) := by
  obtain ⟨j1, j2, j3, j4, j5, j6⟩ := h.a1.read_ n
  exact ⟨⟨h.a0, j1, h.y0, h.y1.trans j2.symm, h.w0, fun q => h.w1 (by rw [← j3]; exact q), h.r0, fun q => h.r1 (by rw [← j4]; exact q), h.x0, h.x1⟩, fun q => ⟨h.w1 (j5 q).1, (j5 q).2⟩, fun q => (.inr (.inr (.inl (h.r1 (j6 q)))))⟩
theorem HD.closew1 (h : HD s B0 B1 R0 R1 f0 f1 y0 y1 k0 k1 h0 h1) : ((closewM s.m1 13).err = 0 ∨ (closewM s.m1 13).err = 14) ∧ HD { s with m1 := (closewM s.m1 13).m } B0 B1 R0 R1 f0 f1 y0 y1 k0 (k1 || decide ((closewM s.m1 13).err = 0)) h0 h1 ∧ ((closewM s.m1 13).err = 14 → Some4 k0 (k1 || decide ((closewM s.m1 13).err = 0)) h0 h1) := by
  obtain ⟨j1, j2, j3, j4, j5⟩ := h.a1.closew
  have hk : (k1 || decide ((closewM s.m1 13).err = 0)) = true := by
    rcases j5 with j5 | ⟨_, j5⟩
    · rw [j5]; simp
    · rw [h.w1 j5]; rfl
  refine ⟨j5.imp id And.left, ⟨h.a0, j1, h.y0, h.y1.trans j2.symm, h.w0, fun _ => hk, h.r0, fun q => h.r1 (by rw [← j3]; exact q), h.x0, fun _ => hk⟩, fun _ => (.inr (.inl hk))⟩
theorem HD.closer1 (h : HD s B0 B1 R0 R1 f0 f1 y0 y1 k0 k1 h0 h1) : ((closerM s.m1 14).err = 0 ∨ (closerM s.m1 14).err = 14) ∧ HD { s with m1 := (closerM s.m1 14).m } B0 B1 R0 R1 f0 f1 y0 y1 k0 k1 (h0 || decide ((closerM s.m1 14).err = 0)) h1 ∧ ((closerM s.m1 14).err = 14 → Some4 k0 k1 (h0 || decide ((closerM s.m1 14).err = 0)) h1) := by
  obtain ⟨j1, j2, j3, j4, j5⟩ := h.a1.closer
  have hk : (h0 || decide ((closerM s.m1 14).err = 0)) = true := by
    rcases j5 with j5 | ⟨_, j5⟩
    · rw [j5]; simp
    · rw [h.r1 j5]; rfl
  refine ⟨j5.imp id And.left, ⟨h.a0, j1, h.y0, h.y1.trans j2.symm, h.w0, fun q => h.w1 (by rw [← j3]; exact q), h.r0, fun _ => hk, h.x0, h.x1⟩, fun _ => (.inr (.inr (.inl hk)))⟩
theorem HD.close1 (h : HD s B0 B1 R0 R1 f0 f1 y0 y1 k0 k1 h0 h1) : HD (closeS1 s) B0 B1 R0 R1 f0 f1 y0 y1 k0 (true) h0 (true) := by
  obtain ⟨g1, g2, g3, g4, g5⟩ := h.a1.closew
  obtain ⟨j1, j2, j3, j4, j5⟩ := h.a0.closer
  exact ⟨j1, g1, h.y0.trans j2.symm, h.y1.trans g2.symm, fun q => h.w0 (by rw [← j3]; exact q), fun _ => rfl, fun _ => rfl, fun q => h.r1 (by rw [← g3]; exact q), h.x0, fun _ => rfl⟩
theorem HD.tail1 (h : HD s B0 B1 R0 R1 f0 f1 y0 y1 k0 k1 h0 h1) : 0 ≤ s.m1.acc ∧ 0 ≤ f1 ∧ f1 + s.m1.acc ≤ B1.length ∧ (R1.length : Int) ≤ f1 + s.m1.acc ∧ B1.take R1.length = R1 := ⟨h.a1.ok.a0, h.a1.f0, h.a1.le, h.a1.rl, h.a1.p⟩
end
end Go.Proofs.Ytdoamelhclnphaa
