/-
  step at Copy. Printed by wip/gen_step.py.
-/
import Derived.Test.YtdndabklcenndaaStep40
namespace Go.Proofs.Ytdndabklcenndaa
open Go.RowKit
set_option maxRecDepth 100000

set_option maxHeartbeats 2000000 in
theorem step_copy_bad {w : World} {b : Nat} {r p u l t now n a : Int} (h : BkAt w b r p u l t) (hi : BkInv r p u l t) (a0 : (a == 0) = false) (a1 : (a == 1) = false) (a2 : (a == 2) = false) (a3 : (a == 3) = false) {k : Int} (hk : Bad t now n k) (k0 : (k == 0) = false) :
    Calls Try.prog 22 #[.pointer (some ⟨b, 0, none⟩), .agg #[.int .i64 r, .int .i64 p, .int .i64 u, .int .i64 l, .int .u64 t], .agg #[.int .i64 a, .int .u64 now, .int .i64 n]] w (StepPost r p u b w) := by
  have hlt := h.lt
  obtain ⟨tp1, tp2⟩ := hi.top
  obtain ⟨lc1, lc2⟩ := hi.lbd
  have hp := hi.p1
  have hp2 := hi.p2
  have hr := hi.r1
  have hr2 := hi.r2
  have ht0 := hi.t1
  go_enter Try.func22, Try.ntmps22
  go_wp2_with fail
  refine (wrong_bad _ hk).mono ?_
  rintro e w1 ⟨rfl, f1⟩
  have g1 := (((Fr.refl [b] w).alloc _).alloc _).alloc _ |>.then0 f1
  have s1 : StMem w1 w.heap.size r p u l t a now n := ⟨f1.keep (keepA (keepA (newA rfl))) (by simp), f1.keep (keepA (newA (by simp))) (by simp), f1.keep (newA (by simp)) (by simp)⟩
  have b1 : BkAt w1 b r p u l t := f1.keep (keepA (keepA (keepA h))) (by simp)
  clear f1 h
  generalize hM : w.heap.size = M at *
  have HM := Lib.hid hM
  clear hM
  obtain ⟨d0, d1, d2⟩ := s1.ac
  have hbw : b < w1.heap.size := BkAt.lt b1
  have hMw : M + 1 + 1 < w1.heap.size := lt_of_heap s1.2.2
  go_wp2_with fail
  refine (copy_ok b1 hi.r1).mono ?_
  rintro e w2 ⟨rfl, f2, q2⟩
  have g2 := g1.then0 f2
  have s2 := s1.keep f2 (by simp)
  have b2 : BkAt w2 b r p u l t := f2.keep b1 (by simp)
  generalize w1.heap.size = C at *
  clear d0 d1 d2
  obtain ⟨c0, c1, c2, c3, c4, k3, k4⟩ := s2.mo
  go_wp2_with fail
  refine (reserve_any b2 hi t 1 (by omega) (by omega) (Int.le_refl _) hi.t2).mono ?_
  rintro e w3 ⟨x, y, rfl, f3⟩
  have g3 := g2.then f3
  have s3 := s2.keep f3 (by intro x hx; simp only [List.mem_singleton] at hx; omega)
  have q3 : BkAt w3 C r p u l t := f3.keep q2 (by simp only [List.mem_singleton]; omega)
  clear c0 c1 c2 c3 c4 k3 k4
  obtain ⟨c0, c1, c2, c3, c4, k3, k4⟩ := s3.mo
  obtain ⟨d0, d1, d2⟩ := s3.ac
  obtain ⟨e0, e1, e2, e3, e4, j0, j1, j2, j3, j4⟩ := s3.re
  go_wp2_with fail
  go_region
  go_wp2_with fail
  refine bodyPost_ret (v := .tuple #[.pointer (some ⟨C, 0, none⟩), .agg #[.int .i64 r, .int .i64 p, .int .i64 u, .int .i64 (l), .int .u64 (t)], .bool true]) (by simp [results, Try.results22, go_sem, e0, e1, e2, e3, e4]) rfl ?_
  refine ⟨C, _, _, rfl, hi, ?_, ?_, .inr (by have := HM.out; omega)⟩
  · repeat first | (with_reducible exact g3) | (with_reducible refine Fr.drew ?_) | (with_reducible refine Fr.drewN ?_ _) | (with_reducible refine Fr.setCell ?_ (.inr (by simp; have := HM.out; omega)) _)
  · repeat first | (with_reducible exact q3) | (with_reducible refine BkAt.drew ?_) | (with_reducible refine BkAt.drewN ?_ _) | (with_reducible refine BkAt.setC ?_ (by simp; omega))


set_option maxHeartbeats 2000000 in
theorem step_copy_ok {w : World} {b : Nat} {r p u l t now n a : Int} (h : BkAt w b r p u l t) (hi : BkInv r p u l t) (hn : 0 ≤ n) (hn2 : n ≤ 1000000) (ht : t ≤ now) (hnow : now < 18446744073709551615) (a0 : (a == 0) = false) (a1 : (a == 1) = false) (a2 : (a == 2) = false) (a3 : (a == 3) = false) :
    Calls Try.prog 22 #[.pointer (some ⟨b, 0, none⟩), .agg #[.int .i64 r, .int .i64 p, .int .i64 u, .int .i64 l, .int .u64 t], .agg #[.int .i64 a, .int .u64 now, .int .i64 n]] w (StepPost r p u b w) := by
  have hlt := h.lt
  obtain ⟨tp1, tp2⟩ := hi.top
  obtain ⟨lc1, lc2⟩ := hi.lbd
  have hp := hi.p1
  have hp2 := hi.p2
  have hr := hi.r1
  have hr2 := hi.r2
  have ht0 := hi.t1
  obtain ⟨lb1, lb2⟩ := lvl_bd hi ht
  obtain ⟨m1, m2⟩ := mul_bd hn hn2 (by omega : 0 ≤ p) hp2
  go_enter Try.func22, Try.ntmps22
  go_wp2_with fail
  refine (wrong_ok _ hn hn2 ht hnow).mono ?_
  rintro e w1 ⟨rfl, f1⟩
  have g1 := (((Fr.refl [b] w).alloc _).alloc _).alloc _ |>.then0 f1
  have s1 : StMem w1 w.heap.size r p u l t a now n := ⟨f1.keep (keepA (keepA (newA rfl))) (by simp), f1.keep (keepA (newA (by simp))) (by simp), f1.keep (newA (by simp)) (by simp)⟩
  have b1 : BkAt w1 b r p u l t := f1.keep (keepA (keepA (keepA h))) (by simp)
  clear f1 h
  generalize hM : w.heap.size = M at *
  have HM := Lib.hid hM
  clear hM
  obtain ⟨c0, c1, c2, c3, c4, k3, k4⟩ := s1.mo
  obtain ⟨d0, d1, d2⟩ := s1.ac
  go_wp2_with fail
  refine (grown_ok _ hi ht hnow).mono ?_
  rintro e w2 ⟨rfl, f2⟩
  have g2 := g1.then0 f2
  have s2 := s1.keep f2 (by simp)
  have b2 : BkAt w2 b r p u (l) (t) := f2.keep b1 (by simp)
  clear c0 c1 c2 c3 c4 k3 k4 d0 d1 d2
  clear s1 b1 g1 f2
  obtain ⟨d0, d1, d2⟩ := s2.ac
  have hbw : b < w2.heap.size := BkAt.lt b2
  have hMw : M + 1 + 1 < w2.heap.size := lt_of_heap s2.2.2
  go_wp2_with fail
  refine (copy_ok b2 hi.r1).mono ?_
  rintro e w3 ⟨rfl, f3, q3⟩
  have g3 := g2.then0 f3
  have s3 := s2.keep f3 (by simp)
  have b3 : BkAt w3 b r p u l t := f3.keep b2 (by simp)
  generalize w2.heap.size = C at *
  clear d0 d1 d2
  obtain ⟨c0, c1, c2, c3, c4, k3, k4⟩ := s3.mo
  go_wp2_with fail
  refine (reserve_any b3 hi t 1 (by omega) (by omega) (Int.le_refl _) hi.t2).mono ?_
  rintro e w4 ⟨x, y, rfl, f4⟩
  have g4 := g3.then f4
  have s4 := s3.keep f4 (by intro x hx; simp only [List.mem_singleton] at hx; omega)
  have q4 : BkAt w4 C r p u l t := f4.keep q3 (by simp only [List.mem_singleton]; omega)
  clear c0 c1 c2 c3 c4 k3 k4
  obtain ⟨c0, c1, c2, c3, c4, k3, k4⟩ := s4.mo
  obtain ⟨d0, d1, d2⟩ := s4.ac
  obtain ⟨e0, e1, e2, e3, e4, j0, j1, j2, j3, j4⟩ := s4.re
  go_wp2_with fail
  go_region
  go_wp2_with fail
  refine bodyPost_ret (v := .tuple #[.pointer (some ⟨C, 0, none⟩), .agg #[.int .i64 r, .int .i64 p, .int .i64 u, .int .i64 (l), .int .u64 (t)], .bool true]) (by simp [results, Try.results22, go_sem, e0, e1, e2, e3, e4]) rfl ?_
  refine ⟨C, _, _, rfl, hi, ?_, ?_, .inr (by have := HM.out; omega)⟩
  · repeat first | (with_reducible exact g4) | (with_reducible refine Fr.drew ?_) | (with_reducible refine Fr.drewN ?_ _) | (with_reducible refine Fr.setCell ?_ (.inr (by simp; have := HM.out; omega)) _)
  · repeat first | (with_reducible exact q4) | (with_reducible refine BkAt.drew ?_) | (with_reducible refine BkAt.drewN ?_ _) | (with_reducible refine BkAt.setC ?_ (by simp; omega))

end Go.Proofs.Ytdndabklcenndaa
