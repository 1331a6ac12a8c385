/-
  Contracts of package bucket's exported functions. Printed by wip/gen_bucket.py.
-/
import Derived.Test.YtdndabklcenndaaBucketRes
import Derived.Test.YtdndabklcenndaaBucketWait
namespace Go.Proofs.Ytdndabklcenndaa
open Go.RowKit
set_option maxRecDepth 100000

theorem enter_tokens (args : Array Value) (w : World) : (callFunc 44 args).run Try.prog w = .ok (.enter 44 args) w := by kernel_rfl
theorem enter_wait (args : Array Value) (w : World) : (callFunc 45 args).run Try.prog w = .ok (.enter 45 args) w := by kernel_rfl
theorem enter_take (args : Array Value) (w : World) : (callFunc 46 args).run Try.prog w = .ok (.enter 46 args) w := by kernel_rfl
theorem enter_reserve (args : Array Value) (w : World) : (callFunc 41 args).run Try.prog w = .ok (.enter 41 args) w := by kernel_rfl

theorem take_yes {w : World} {b : Nat} {r p u l t : Int} (h : BkAt w b r p u l t) (hi : BkInv r p u l t) (now : Int) (n : Int) (hn : 0 ≤ n) (hn2 : n ≤ 1000000) (ht : t ≤ now) (hnow : now < 18446744073709551615) (hv : n * p ≤ lvl r p u l t now) :
    Calls Try.prog 20 #[.pointer (some ⟨b, 0, none⟩), .int .u64 now, .int .i64 n] w fun e w' =>
      e = .returned (.tuple #[.bool true, .int .i64 0]) ∧ Fr [b] w w' ∧ BkAt w' b r p u (lvl r p u l t now - n * p) now := by
  have hmf : ∀ (fn : Fn) (first cap : Array Value) (w : World), (Instr.makeFunc fn first cap).run Try.prog w = .ok (.func fn first cap) w := fun _ _ _ _ => rfl
  have hlt := h.lt
  have ht0 := hi.t1
  go_enter Try.func20, Try.ntmps20
  go_wp2_with fail
  refine (at_ok (r := r) (p := p) (u := u) (l := l) (t := t) (by exact keepA (keepA (keepA (keepA h)))) hi now n _ _ hn hn2 ht hnow
    (fun v w' => v = 0 ∧ Fr [b] w w' ∧ BkAt w' b r p u (lvl r p u l t now - n * p) now ∧ One w' (w.heap.size + 1 + 1 + 1) (.bool true) 4) enter_take (fun k => ?_)).mono ?_
  · obtain ⟨lb1, lb2⟩ := lvl_bd hi ht
    obtain ⟨tp1, tp2⟩ := hi.top
    obtain ⟨lc1, lc2⟩ := hi.lbd
    refine (take_fn_yes (b := b) (r := r) (p := p) (u := u) (l := l) (t := t) (n := n) (now := now) (B := w.heap.size) (T := w.heap.size + 1) (N := w.heap.size + 1 + 1) (U := w.heap.size + 1 + 1 + 1)
      (by exact keepA (keepA (keepA (keepA h)))) hi (by exact keepA (newA (by simp))) (by exact keepA (keepA (keepA (newA rfl)))) (by exact keepA (keepA (newA (by simp)))) (by exact newA (by simp)) (by omega) _ hn hn2 hv (by omega)).mono ?_
    rintro e w' ⟨rfl, hf, h1, h2⟩
    exact ⟨0, rfl, rfl, (((((((Fr.refl [b] w).alloc _).alloc _).alloc _).alloc _)).drewN k).trans hf (fun _ h => .inl h) (fun x hx => by simp at hx; rcases hx with rfl | rfl; exact .inl (by simp); exact .inr (by omega)), h1, h2⟩
  · rintro e w' ⟨v, rfl, rfl, hf, h1, h2⟩
    obtain ⟨c, f⟩ := h2.cell
    have hs := hf.size
    go_wp2_with fail
    exact bodyPost_ret (v := .tuple #[.bool true, .int .i64 0]) (by simp [results, Try.results20, go_sem, c]) rfl ⟨rfl, hf.setCell (.inr (by dsimp only; omega)) _, keepS h1 (by simp; omega)⟩

theorem take_no {w : World} {b : Nat} {r p u l t : Int} (h : BkAt w b r p u l t) (hi : BkInv r p u l t) (now : Int) (n : Int) (hn : 0 ≤ n) (hn2 : n ≤ 1000000) (ht : t ≤ now) (hnow : now < 18446744073709551615) (hv : lvl r p u l t now < n * p) :
    Calls Try.prog 20 #[.pointer (some ⟨b, 0, none⟩), .int .u64 now, .int .i64 n] w fun e w' =>
      e = .returned (.tuple #[.bool false, .int .i64 0]) ∧ Fr [] w w' := by
  have hmf : ∀ (fn : Fn) (first cap : Array Value) (w : World), (Instr.makeFunc fn first cap).run Try.prog w = .ok (.func fn first cap) w := fun _ _ _ _ => rfl
  have hlt := h.lt
  have ht0 := hi.t1
  go_enter Try.func20, Try.ntmps20
  go_wp2_with fail
  refine (at_ok (r := r) (p := p) (u := u) (l := l) (t := t) (by exact keepA (keepA (keepA (keepA h)))) hi now n _ _ hn hn2 ht hnow
    (fun v w' => v = 0 ∧ Fr [] w w' ∧ One w' (w.heap.size + 1 + 1 + 1) (.bool false) 4) enter_take (fun k => ?_)).mono ?_
  · obtain ⟨lb1, lb2⟩ := lvl_bd hi ht
    obtain ⟨tp1, tp2⟩ := hi.top
    obtain ⟨lc1, lc2⟩ := hi.lbd
    refine (take_fn_no (b := b) (r := r) (p := p) (u := u) (l := l) (t := t) (n := n) (B := w.heap.size) (T := w.heap.size + 1) (N := w.heap.size + 1 + 1) (U := w.heap.size + 1 + 1 + 1)
      (by exact keepA (keepA (keepA (keepA h)))) hi (by exact keepA (newA (by simp))) (by exact keepA (keepA (keepA (newA rfl)))) _ hn hn2 hv).mono ?_
    rintro e w' ⟨rfl, m, rfl⟩
    exact ⟨0, rfl, rfl, (((((((Fr.refl [] w).alloc _).alloc _).alloc _).alloc _)).drewN k).drewN m, (by exact newA (by simp))⟩
  · rintro e w' ⟨v, rfl, rfl, hf, h2⟩
    obtain ⟨c, f⟩ := h2.cell
    have hs := hf.size
    go_wp2_with fail
    exact bodyPost_ret (v := .tuple #[.bool false, .int .i64 0]) (by simp [results, Try.results20, go_sem, c]) rfl ⟨rfl, hf.setCell (.inr (by dsimp only; omega)) _⟩

theorem reserve_yes {w : World} {b : Nat} {r p u l t : Int} (h : BkAt w b r p u l t) (hi : BkInv r p u l t) (now : Int) (n : Int) (hn : 0 ≤ n) (hn2 : n ≤ 1000000) (ht : t ≤ now) (hnow : now < 18446744073709551615) (hv : -1000000 * p ≤ lvl r p u l t now - n * p) :
    Calls Try.prog 16 #[.pointer (some ⟨b, 0, none⟩), .int .u64 now, .int .i64 n] w fun e w' =>
      e = .returned (.tuple #[.int .u64 (plusT now (tk r (max 0 (-(lvl r p u l t now - n * p))))), .int .i64 0]) ∧ Fr [b] w w' ∧ BkAt w' b r p u (lvl r p u l t now - n * p) now := by
  have hmf : ∀ (fn : Fn) (first cap : Array Value) (w : World), (Instr.makeFunc fn first cap).run Try.prog w = .ok (.func fn first cap) w := fun _ _ _ _ => rfl
  have hlt := h.lt
  have ht0 := hi.t1
  go_enter Try.func16, Try.ntmps16
  go_wp2_with fail
  refine (at_ok (r := r) (p := p) (u := u) (l := l) (t := t) (by exact keepA (keepA (keepA (keepA h)))) hi now n _ _ hn hn2 ht hnow
    (fun v w' => v = 0 ∧ Fr [b] w w' ∧ BkAt w' b r p u (lvl r p u l t now - n * p) now ∧ One w' (w.heap.size + 1 + 1 + 1) (.int .u64 (plusT now (tk r (max 0 (-(lvl r p u l t now - n * p)))))) 25) enter_reserve (fun k => ?_)).mono ?_
  · obtain ⟨lb1, lb2⟩ := lvl_bd hi ht
    obtain ⟨tp1, tp2⟩ := hi.top
    obtain ⟨lc1, lc2⟩ := hi.lbd
    refine (reserve_fn_yes (b := b) (r := r) (p := p) (u := u) (l := l) (t := t) (n := n) (now := now) (B := w.heap.size) (T := w.heap.size + 1) (N := w.heap.size + 1 + 1) (U := w.heap.size + 1 + 1 + 1)
      (by exact keepA (keepA (keepA (keepA h)))) hi (by exact keepA (newA (by simp))) (by exact keepA (keepA (keepA (newA rfl)))) (by exact keepA (keepA (newA (by simp)))) (by exact newA (by simp)) (by omega) (by omega) (by omega) (by omega) (by omega) _ hn hn2 (by omega) (by omega) hv (by omega) hnow).mono ?_
    rintro e w' ⟨rfl, hf, h1, h2⟩
    exact ⟨0, rfl, rfl, (((((((Fr.refl [b] w).alloc _).alloc _).alloc _).alloc _)).drewN k).trans hf (fun _ h => .inl h) (fun x hx => by simp at hx; rcases hx with rfl | rfl; exact .inl (by simp); exact .inr (by omega)), h1, h2⟩
  · rintro e w' ⟨v, rfl, rfl, hf, h1, h2⟩
    obtain ⟨c, f⟩ := h2.cell
    have hs := hf.size
    go_wp2_with fail
    exact bodyPost_ret (v := .tuple #[.int .u64 (plusT now (tk r (max 0 (-(lvl r p u l t now - n * p))))), .int .i64 0]) (by simp [results, Try.results16, go_sem, c]) rfl ⟨rfl, hf.setCell (.inr (by dsimp only; omega)) _, keepS h1 (by simp; omega)⟩

theorem reserve_no {w : World} {b : Nat} {r p u l t : Int} (h : BkAt w b r p u l t) (hi : BkInv r p u l t) (now : Int) (n : Int) (hn : 0 ≤ n) (hn2 : n ≤ 1000000) (ht : t ≤ now) (hnow : now < 18446744073709551615) (hv : lvl r p u l t now - n * p < -1000000 * p) :
    Calls Try.prog 16 #[.pointer (some ⟨b, 0, none⟩), .int .u64 now, .int .i64 n] w fun e w' =>
      e = .returned (.tuple #[.int .u64 0, .int .i64 7]) ∧ Fr [] w w' := by
  have hmf : ∀ (fn : Fn) (first cap : Array Value) (w : World), (Instr.makeFunc fn first cap).run Try.prog w = .ok (.func fn first cap) w := fun _ _ _ _ => rfl
  have hlt := h.lt
  have ht0 := hi.t1
  go_enter Try.func16, Try.ntmps16
  go_wp2_with fail
  refine (at_ok (r := r) (p := p) (u := u) (l := l) (t := t) (by exact keepA (keepA (keepA (keepA h)))) hi now n _ _ hn hn2 ht hnow
    (fun v w' => v = 7 ∧ Fr [] w w' ∧ One w' (w.heap.size + 1 + 1 + 1) (.int .u64 0) 25) enter_reserve (fun k => ?_)).mono ?_
  · obtain ⟨lb1, lb2⟩ := lvl_bd hi ht
    obtain ⟨tp1, tp2⟩ := hi.top
    obtain ⟨lc1, lc2⟩ := hi.lbd
    refine (reserve_fn_no (b := b) (r := r) (p := p) (u := u) (l := l) (t := t) (n := n) (B := w.heap.size) (T := w.heap.size + 1) (N := w.heap.size + 1 + 1) (U := w.heap.size + 1 + 1 + 1)
      (by exact keepA (keepA (keepA (keepA h)))) hi (by exact keepA (newA (by simp))) (by exact keepA (keepA (keepA (newA rfl)))) _ hn hn2 (by omega) (by omega) hv).mono ?_
    rintro e w' ⟨rfl, m, rfl⟩
    exact ⟨7, rfl, rfl, (((((((Fr.refl [] w).alloc _).alloc _).alloc _).alloc _)).drewN k).drewN m, (by exact newA (by simp))⟩
  · rintro e w' ⟨v, rfl, rfl, hf, h2⟩
    obtain ⟨c, f⟩ := h2.cell
    have hs := hf.size
    go_wp2_with fail
    exact bodyPost_ret (v := .tuple #[.int .u64 0, .int .i64 7]) (by simp [results, Try.results16, go_sem, c]) rfl ⟨rfl, hf.setCell (.inr (by dsimp only; omega)) _⟩

theorem wait_yes {w : World} {b : Nat} {r p u l t : Int} (h : BkAt w b r p u l t) (hi : BkInv r p u l t) (now : Int) (n : Int) (hn : 0 ≤ n) (hn2 : n ≤ 1000000) (ht : t ≤ now) (hnow : now < 18446744073709551615) (hv : n ≤ u) :
    Calls Try.prog 19 #[.pointer (some ⟨b, 0, none⟩), .int .u64 now, .int .i64 n] w fun e w' =>
      e = .returned (.tuple #[.int .u64 (plusT now (tk r (max 0 (n * p - lvl r p u l t now)))), .int .i64 0]) ∧ Fr [] w w' := by
  have hmf : ∀ (fn : Fn) (first cap : Array Value) (w : World), (Instr.makeFunc fn first cap).run Try.prog w = .ok (.func fn first cap) w := fun _ _ _ _ => rfl
  have hlt := h.lt
  have ht0 := hi.t1
  go_enter Try.func19, Try.ntmps19
  go_wp2_with fail
  refine (at_ok (r := r) (p := p) (u := u) (l := l) (t := t) (by exact keepA (keepA (keepA (keepA h)))) hi now n _ _ hn hn2 ht hnow
    (fun v w' => v = 0 ∧ Fr [] w w' ∧ One w' (w.heap.size + 1 + 1 + 1) (.int .u64 (plusT now (tk r (max 0 (n * p - lvl r p u l t now))))) 25) enter_wait (fun k => ?_)).mono ?_
  · obtain ⟨lb1, lb2⟩ := lvl_bd hi ht
    obtain ⟨tp1, tp2⟩ := hi.top
    obtain ⟨lc1, lc2⟩ := hi.lbd
    refine (wait_fn_yes (b := b) (r := r) (p := p) (u := u) (l := l) (t := t) (n := n) (now := now) (B := w.heap.size) (T := w.heap.size + 1) (N := w.heap.size + 1 + 1) (U := w.heap.size + 1 + 1 + 1)
      (by exact keepA (keepA (keepA (keepA h)))) hi (by exact keepA (newA (by simp))) (by exact keepA (keepA (keepA (newA rfl)))) (by exact keepA (keepA (newA (by simp)))) (by exact newA (by simp)) (by omega) (by omega) (by omega) (by omega) _ hn hn2 (by omega) (by omega) hv (by omega) hnow).mono ?_
    rintro e w' ⟨rfl, hf, h2⟩
    exact ⟨0, rfl, rfl, (((((((Fr.refl [] w).alloc _).alloc _).alloc _).alloc _)).drewN k).trans hf (fun _ h => .inl h) (fun x hx => by simp at hx; subst hx; exact .inr (by omega)), h2⟩
  · rintro e w' ⟨v, rfl, rfl, hf, h2⟩
    obtain ⟨c, f⟩ := h2.cell
    have hs := hf.size
    go_wp2_with fail
    exact bodyPost_ret (v := .tuple #[.int .u64 (plusT now (tk r (max 0 (n * p - lvl r p u l t now)))), .int .i64 0]) (by simp [results, Try.results19, go_sem, c]) rfl ⟨rfl, hf.setCell (.inr (by dsimp only; omega)) _⟩

theorem wait_no {w : World} {b : Nat} {r p u l t : Int} (h : BkAt w b r p u l t) (hi : BkInv r p u l t) (now : Int) (n : Int) (hn : 0 ≤ n) (hn2 : n ≤ 1000000) (ht : t ≤ now) (hnow : now < 18446744073709551615) (hv : u < n) :
    Calls Try.prog 19 #[.pointer (some ⟨b, 0, none⟩), .int .u64 now, .int .i64 n] w fun e w' =>
      e = .returned (.tuple #[.int .u64 0, .int .i64 9]) ∧ Fr [] w w' := by
  have hmf : ∀ (fn : Fn) (first cap : Array Value) (w : World), (Instr.makeFunc fn first cap).run Try.prog w = .ok (.func fn first cap) w := fun _ _ _ _ => rfl
  have hlt := h.lt
  have ht0 := hi.t1
  go_enter Try.func19, Try.ntmps19
  go_wp2_with fail
  refine (at_ok (r := r) (p := p) (u := u) (l := l) (t := t) (by exact keepA (keepA (keepA (keepA h)))) hi now n _ _ hn hn2 ht hnow
    (fun v w' => v = 9 ∧ Fr [] w w' ∧ One w' (w.heap.size + 1 + 1 + 1) (.int .u64 0) 25) enter_wait (fun k => ?_)).mono ?_
  · obtain ⟨lb1, lb2⟩ := lvl_bd hi ht
    obtain ⟨tp1, tp2⟩ := hi.top
    obtain ⟨lc1, lc2⟩ := hi.lbd
    refine (wait_fn_no (b := b) (r := r) (p := p) (u := u) (l := l) (t := t) (n := n) (B := w.heap.size) (T := w.heap.size + 1) (N := w.heap.size + 1 + 1) (U := w.heap.size + 1 + 1 + 1)
      (by exact keepA (keepA (keepA (keepA h)))) (by exact keepA (newA (by simp))) (by exact keepA (keepA (keepA (newA rfl)))) _ hv).mono ?_
    rintro e w' ⟨rfl, m, rfl⟩
    exact ⟨9, rfl, rfl, (((((((Fr.refl [] w).alloc _).alloc _).alloc _).alloc _)).drewN k).drewN m, (by exact newA (by simp))⟩
  · rintro e w' ⟨v, rfl, rfl, hf, h2⟩
    obtain ⟨c, f⟩ := h2.cell
    have hs := hf.size
    go_wp2_with fail
    exact bodyPost_ret (v := .tuple #[.int .u64 0, .int .i64 9]) (by simp [results, Try.results19, go_sem, c]) rfl ⟨rfl, hf.setCell (.inr (by dsimp only; omega)) _⟩

theorem tokens_ok {w : World} {b : Nat} {r p u l t : Int} (h : BkAt w b r p u l t) (hi : BkInv r p u l t) (now : Int) (ht : t ≤ now) (hnow : now < 18446744073709551615) :
    Calls Try.prog 18 #[.pointer (some ⟨b, 0, none⟩), .int .u64 now] w fun e w' =>
      e = .returned (.tuple #[.int .i64 (max 0 (lvl r p u l t now) / p), .int .i64 0]) ∧ Fr [] w w' := by
  have hmf : ∀ (fn : Fn) (first cap : Array Value) (w : World), (Instr.makeFunc fn first cap).run Try.prog w = .ok (.func fn first cap) w := fun _ _ _ _ => rfl
  have hlt := h.lt
  have ht0 := hi.t1
  go_enter Try.func18, Try.ntmps18
  go_wp2_with fail
  refine (at_ok (r := r) (p := p) (u := u) (l := l) (t := t) (by exact keepA (keepA h)) hi now 0 _ _ (by omega) (by omega) ht hnow
    (fun v w' => v = 0 ∧ Fr [] w w' ∧ One w' (w.heap.size + 1) (.int .i64 (max 0 (lvl r p u l t now) / p)) 3) enter_tokens (fun k => ?_)).mono ?_
  · obtain ⟨lb1, lb2⟩ := lvl_bd hi ht
    obtain ⟨tp1, tp2⟩ := hi.top
    obtain ⟨lc1, lc2⟩ := hi.lbd
    refine (tokens_fn (b := b) (r := r) (p := p) (u := u) (l := l) (t := t) (B := w.heap.size) (N := w.heap.size + 1)
      (by exact keepA (keepA h)) hi (by exact keepA (newA rfl)) (by exact newA (by simp)) _ (by omega) (by omega)).mono ?_
    rintro e w' ⟨rfl, rfl⟩
    exact ⟨0, rfl, rfl, (((((Fr.refl [] w).alloc _).alloc _)).drewN k).setCell (.inr (by dsimp only; omega)) _, One.set (by exact newA (by simp))⟩
  · rintro e w' ⟨v, rfl, rfl, hf, h2⟩
    obtain ⟨c, f⟩ := h2.cell
    have hs := hf.size
    go_wp2_with fail
    exact bodyPost_ret (v := .tuple #[.int .i64 (max 0 (lvl r p u l t now) / p), .int .i64 0]) (by simp [results, Try.results18, go_sem, c]) rfl ⟨rfl, hf.setCell (.inr (by dsimp only; omega)) _⟩

theorem tokens_err {w : World} {q : Option Addr} {now k : Int}
    (hat : ∀ (W : World) (f : Value), (∀ {b : Nat} {o : Obj}, w.heap[b]? = some o → W.heap[b]? = some o) → Calls Try.prog 40 #[.pointer q, .int .u64 now, .int .i64 0, f] W fun e w' => e = .returned (.int .i64 k) ∧ W = w') :
    Calls Try.prog 18 #[.pointer q, .int .u64 now] w fun e w' => e = .returned (.tuple #[.int .i64 0, .int .i64 k]) ∧ Fr [] w w' := by
  have hmf : ∀ (fn : Fn) (first cap : Array Value) (w : World), (Instr.makeFunc fn first cap).run Try.prog w = .ok (.func fn first cap) w := fun _ _ _ _ => rfl
  have HAT := Lib.hid hat
  clear hat
  go_enter Try.func18, Try.ntmps18
  go_wp2_with fail
  refine (HAT.out _ _ (fun hb => keepA (keepA (hb)))).mono ?_
  rintro e w' ⟨rfl, rfl⟩
  go_wp2_with fail
  exact bodyPost_ret (v := .tuple #[.int .i64 0, .int .i64 k]) (by simp [results, Try.results18, go_sem]) rfl ⟨rfl, (((Fr.refl [] w).alloc _).alloc _)⟩

theorem wait_err {w : World} {q : Option Addr} {now n k : Int}
    (hat : ∀ (W : World) (f : Value), (∀ {b : Nat} {o : Obj}, w.heap[b]? = some o → W.heap[b]? = some o) → Calls Try.prog 40 #[.pointer q, .int .u64 now, .int .i64 n, f] W fun e w' => e = .returned (.int .i64 k) ∧ W = w') :
    Calls Try.prog 19 #[.pointer q, .int .u64 now, .int .i64 n] w fun e w' => e = .returned (.tuple #[.int .u64 0, .int .i64 k]) ∧ Fr [] w w' := by
  have hmf : ∀ (fn : Fn) (first cap : Array Value) (w : World), (Instr.makeFunc fn first cap).run Try.prog w = .ok (.func fn first cap) w := fun _ _ _ _ => rfl
  have HAT := Lib.hid hat
  clear hat
  go_enter Try.func19, Try.ntmps19
  go_wp2_with fail
  refine (HAT.out _ _ (fun hb => keepA (keepA (keepA (keepA (hb)))))).mono ?_
  rintro e w' ⟨rfl, rfl⟩
  go_wp2_with fail
  exact bodyPost_ret (v := .tuple #[.int .u64 0, .int .i64 k]) (by simp [results, Try.results19, go_sem]) rfl ⟨rfl, (((((Fr.refl [] w).alloc _).alloc _).alloc _).alloc _)⟩

theorem take_err {w : World} {q : Option Addr} {now n k : Int}
    (hat : ∀ (W : World) (f : Value), (∀ {b : Nat} {o : Obj}, w.heap[b]? = some o → W.heap[b]? = some o) → Calls Try.prog 40 #[.pointer q, .int .u64 now, .int .i64 n, f] W fun e w' => e = .returned (.int .i64 k) ∧ W = w') :
    Calls Try.prog 20 #[.pointer q, .int .u64 now, .int .i64 n] w fun e w' => e = .returned (.tuple #[.bool false, .int .i64 k]) ∧ Fr [] w w' := by
  have hmf : ∀ (fn : Fn) (first cap : Array Value) (w : World), (Instr.makeFunc fn first cap).run Try.prog w = .ok (.func fn first cap) w := fun _ _ _ _ => rfl
  have HAT := Lib.hid hat
  clear hat
  go_enter Try.func20, Try.ntmps20
  go_wp2_with fail
  refine (HAT.out _ _ (fun hb => keepA (keepA (keepA (keepA (hb)))))).mono ?_
  rintro e w' ⟨rfl, rfl⟩
  go_wp2_with fail
  exact bodyPost_ret (v := .tuple #[.bool false, .int .i64 k]) (by simp [results, Try.results20, go_sem]) rfl ⟨rfl, (((((Fr.refl [] w).alloc _).alloc _).alloc _).alloc _)⟩

theorem reserve_err {w : World} {q : Option Addr} {now n k : Int}
    (hat : ∀ (W : World) (f : Value), (∀ {b : Nat} {o : Obj}, w.heap[b]? = some o → W.heap[b]? = some o) → Calls Try.prog 40 #[.pointer q, .int .u64 now, .int .i64 n, f] W fun e w' => e = .returned (.int .i64 k) ∧ W = w') :
    Calls Try.prog 16 #[.pointer q, .int .u64 now, .int .i64 n] w fun e w' => e = .returned (.tuple #[.int .u64 0, .int .i64 k]) ∧ Fr [] w w' := by
  have hmf : ∀ (fn : Fn) (first cap : Array Value) (w : World), (Instr.makeFunc fn first cap).run Try.prog w = .ok (.func fn first cap) w := fun _ _ _ _ => rfl
  have HAT := Lib.hid hat
  clear hat
  go_enter Try.func16, Try.ntmps16
  go_wp2_with fail
  refine (HAT.out _ _ (fun hb => keepA (keepA (keepA (keepA (hb)))))).mono ?_
  rintro e w' ⟨rfl, rfl⟩
  go_wp2_with fail
  exact bodyPost_ret (v := .tuple #[.int .u64 0, .int .i64 k]) (by simp [results, Try.results16, go_sem]) rfl ⟨rfl, (((((Fr.refl [] w).alloc _).alloc _).alloc _).alloc _)⟩

end Go.Proofs.Ytdndabklcenndaa
