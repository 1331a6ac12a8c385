/-
  step at Reserve. Printed by wip/gen_step.py.
-/
import Derived.Test.YtdndabklcenndaaStep40
namespace Go.Proofs.Ytdndabklcenndaa
open Go.RowKit
set_option maxRecDepth 100000

set_option maxHeartbeats 2000000 in
theorem step_reserve_bad {w : World} {b : Nat} {r p u l t now n : Int} (h : BkAt w b r p u l t) (hi : BkInv r p u l t) {k : Int} (hk : Bad t now n k) (k0 : (k == 0) = false) (k1 : (k != 0) = true) :
    Calls Try.prog 22 #[.pointer (some ⟨b, 0, none⟩), .agg #[.int .i64 r, .int .i64 p, .int .i64 u, .int .i64 l, .int .u64 t], .agg #[.int .i64 1, .int .u64 now, .int .i64 n]] w (StepPost r p u b w) := by
  have hlt := h.lt
  obtain ⟨tp1, tp2⟩ := hi.top
  obtain ⟨lc1, lc2⟩ := hi.lbd
  have hp := hi.p1
  have hp2 := hi.p2
  have hr := hi.r1
  have hr2 := hi.r2
  have ht0 := hi.t1
  go_enter Try.func22, Try.ntmps22
  go_wp2_with fail
  refine (wrong_bad _ hk).mono ?_
  rintro e w1 ⟨rfl, f1⟩
  have g1 := (((Fr.refl [b] w).alloc _).alloc _).alloc _ |>.then0 f1
  have s1 : StMem w1 w.heap.size r p u l t 1 now n := ⟨f1.keep (keepA (keepA (newA rfl))) (by simp), f1.keep (keepA (newA (by simp))) (by simp), f1.keep (newA (by simp)) (by simp)⟩
  have b1 : BkAt w1 b r p u l t := f1.keep (keepA (keepA (keepA h))) (by simp)
  clear f1 h
  generalize hM : w.heap.size = M at *
  have HM := Lib.hid hM
  clear hM
  obtain ⟨c0, c1, c2, c3, c4, k3, k4⟩ := s1.mo
  obtain ⟨d0, d1, d2⟩ := s1.ac
  go_wp2_with fail
  refine (reserve_bad b1 hi.r1 hk).mono ?_
  rintro e w2 ⟨rfl, f2⟩
  have g2 := g1.then0 f2
  have s2 := s1.keep f2 (by simp)
  have b2 : BkAt w2 b r p u (l) (t) := f2.keep b1 (by simp)
  clear c0 c1 c2 c3 c4 k3 k4 d0 d1 d2
  clear s1 b1 g1 f2
  obtain ⟨c0, c1, c2, c3, c4, k3, k4⟩ := s2.mo
  obtain ⟨d0, d1, d2⟩ := s2.ac
  obtain ⟨e0, e1, e2, e3, e4, j0, j1, j2, j3, j4⟩ := s2.re
  go_wp2_with fail
  go_region
  go_wp2_with fail
  refine bodyPost_ret (v := .tuple #[.pointer (some ⟨b, 0, none⟩), .agg #[.int .i64 r, .int .i64 p, .int .i64 u, .int .i64 (l), .int .u64 (t)], .bool true]) (by simp [results, Try.results22, go_sem, e0, e1, e2, e3, e4]) rfl ?_
  refine ⟨b, _, _, rfl, hi, ?_, ?_, .inl rfl⟩
  · repeat first | (with_reducible exact g2) | (with_reducible refine Fr.drew ?_) | (with_reducible refine Fr.drewN ?_ _) | (with_reducible refine Fr.setCell ?_ (.inr (by simp; have := HM.out; omega)) _)
  · repeat first | (with_reducible exact b2) | (with_reducible refine BkAt.drew ?_) | (with_reducible refine BkAt.drewN ?_ _) | (with_reducible refine BkAt.setC ?_ (by simp; omega))


set_option maxHeartbeats 2000000 in
theorem step_reserve_no {w : World} {b : Nat} {r p u l t now n : Int} (h : BkAt w b r p u l t) (hi : BkInv r p u l t) (hn : 0 ≤ n) (hn2 : n ≤ 1000000) (ht : t ≤ now) (hnow : now < 18446744073709551615) (hv : lvl r p u l t now - n * p < -1000000 * p) :
    Calls Try.prog 22 #[.pointer (some ⟨b, 0, none⟩), .agg #[.int .i64 r, .int .i64 p, .int .i64 u, .int .i64 l, .int .u64 t], .agg #[.int .i64 1, .int .u64 now, .int .i64 n]] w (StepPost r p u b w) := by
  have hlt := h.lt
  obtain ⟨tp1, tp2⟩ := hi.top
  obtain ⟨lc1, lc2⟩ := hi.lbd
  have hp := hi.p1
  have hp2 := hi.p2
  have hr := hi.r1
  have hr2 := hi.r2
  have ht0 := hi.t1
  obtain ⟨lb1, lb2⟩ := lvl_bd hi ht
  obtain ⟨m1, m2⟩ := mul_bd hn hn2 (by omega : 0 ≤ p) hp2
  go_enter Try.func22, Try.ntmps22
  go_wp2_with fail
  refine (wrong_ok _ hn hn2 ht hnow).mono ?_
  rintro e w1 ⟨rfl, f1⟩
  have g1 := (((Fr.refl [b] w).alloc _).alloc _).alloc _ |>.then0 f1
  have s1 : StMem w1 w.heap.size r p u l t 1 now n := ⟨f1.keep (keepA (keepA (newA rfl))) (by simp), f1.keep (keepA (newA (by simp))) (by simp), f1.keep (newA (by simp)) (by simp)⟩
  have b1 : BkAt w1 b r p u l t := f1.keep (keepA (keepA (keepA h))) (by simp)
  clear f1 h
  generalize hM : w.heap.size = M at *
  have HM := Lib.hid hM
  clear hM
  obtain ⟨c0, c1, c2, c3, c4, k3, k4⟩ := s1.mo
  obtain ⟨d0, d1, d2⟩ := s1.ac
  go_wp2_with fail
  refine (grown_ok _ hi ht hnow).mono ?_
  rintro e w2 ⟨rfl, f2⟩
  have g2 := g1.then0 f2
  have s2 := s1.keep f2 (by simp)
  have b2 : BkAt w2 b r p u (l) (t) := f2.keep b1 (by simp)
  clear c0 c1 c2 c3 c4 k3 k4 d0 d1 d2
  clear s1 b1 g1 f2
  obtain ⟨d0, d1, d2⟩ := s2.ac
  go_wp2_with fail
  refine (reserve_no b2 hi now n hn hn2 ht hnow hv).mono ?_
  rintro e w3 ⟨rfl, f3⟩
  have g3 := g2.then0 f3
  have s3 := s2.keep f3 (by simp)
  have b3 : BkAt w3 b r p u (l) (t) := f3.keep b2 (by simp)
  clear d0 d1 d2
  clear s2 b2 g2 f3
  obtain ⟨c0, c1, c2, c3, c4, k3, k4⟩ := s3.mo
  obtain ⟨d0, d1, d2⟩ := s3.ac
  obtain ⟨e0, e1, e2, e3, e4, j0, j1, j2, j3, j4⟩ := s3.re
  go_wp2_with fail
  go_region
  go_wp2_with fail
  refine bodyPost_ret (v := .tuple #[.pointer (some ⟨b, 0, none⟩), .agg #[.int .i64 r, .int .i64 p, .int .i64 u, .int .i64 (l), .int .u64 (t)], .bool true]) (by simp [results, Try.results22, go_sem, e0, e1, e2, e3, e4]) rfl ?_
  refine ⟨b, _, _, rfl, hi, ?_, ?_, .inl rfl⟩
  · repeat first | (with_reducible exact g3) | (with_reducible refine Fr.drew ?_) | (with_reducible refine Fr.drewN ?_ _) | (with_reducible refine Fr.setCell ?_ (.inr (by simp; have := HM.out; omega)) _)
  · repeat first | (with_reducible exact b3) | (with_reducible refine BkAt.drew ?_) | (with_reducible refine BkAt.drewN ?_ _) | (with_reducible refine BkAt.setC ?_ (by simp; omega))

end Go.Proofs.Ytdndabklcenndaa
