/-
  Layer 5's reference: a rope as a list of strings.
-/
import Derived.Test.YtpkgjgfdobcboaaActs12
import Derived.Test.YtpkgjgfdobcboaaRopeTake
import Derived.Deep.RegionLaw
namespace Go.Proofs.Ytpkgjgfdobcboaa
open Go.RowKit
set_option maxRecDepth 100000

/-- A list of strings, as values. -/
def sv (P : Parts) : List Value := P.map fun l => Value.string (st l)
theorem sv_len (P : Parts) : (sv P).length = P.length := by simp [sv]
theorem sv_append (P Q : Parts) : sv (P ++ Q) = sv P ++ sv Q := by simp [sv]
theorem sv_snoc (P : Parts) (l : List UInt8) : sv P ++ [.string (st l)] = sv (P ++ [l]) := by simp [sv]
theorem sv_one (P : Parts) : ∀ u ∈ sv P, u.oneCell' = true := by
  intro u hu
  obtain ⟨l, _, rfl⟩ := List.mem_map.1 hu
  rfl
theorem SlV.str_at {w : World} {a : Option Addr} {P : Parts} (h : SlV w a (sv P)) {k : Nat} (hk : k < P.length) : ∃ b o, a = some ⟨b, o, none⟩ ∧ b < w.heap.size ∧ w.cell? ⟨b, o + k, none⟩ = some (.string (st P[k])) := by
  obtain ⟨b, o, rfl, hb, hc⟩ := h (by rw [sv_len]; omega)
  refine ⟨b, o, rfl, hb, ?_⟩
  rw [hc k (by rw [sv_len]; exact hk)]
  unfold sv
  rw [List.getElem?_map, List.getElem?_eq_getElem hk]
  rfl

/-- The reference's rope of the parts P. -/
def Rs (w : World) (N : Nat → Prop) (v : Value) (P : Parts) : Prop :=
  ∃ a cap, v = .agg #[.slice a P.length cap] ∧ P.length ≤ cap ∧ cap ≤ maxLen ∧ SlV w a (sv P) ∧ ∀ b o, 0 < P.length → a = some ⟨b, o, none⟩ → N b
theorem Rs.keep {w w' : World} {N : Nat → Prop} {v : Value} {P : Parts} (h : Rs w N v P) {S : List Nat} (hf : Fr S w w') (hS : ∀ x ∈ S, ¬ N x) : Rs w' N v P := by
  obtain ⟨a, cap, h1, h2, h3, h4, h5⟩ := h
  exact ⟨a, cap, h1, h2, h3, h4.keep hf (fun b o h0 e hm => hS b hm (h5 b o (by rwa [sv_len] at h0) e)), h5⟩
theorem Rs.mono {w : World} {N N' : Nat → Prop} {v : Value} {P : Parts} (h : Rs w N v P) (hN : ∀ x, N x → N' x) : Rs w N' v P := by
  obtain ⟨a, cap, h1, h2, h3, h4, h5⟩ := h
  exact ⟨a, cap, h1, h2, h3, h4, fun b o h0 e => hN b (h5 b o h0 e)⟩
theorem Rs.there {w : World} {N : Nat → Prop} {v : Value} {P : Parts} (h : Rs w N v P) : Rs w (fun b => N b ∧ b < w.heap.size) v P := by
  obtain ⟨a, cap, h1, h2, h3, h4, h5⟩ := h
  refine ⟨a, cap, h1, h2, h3, h4, fun b o h0 e => ⟨h5 b o h0 e, ?_⟩⟩
  obtain ⟨b', o', e', hb, _⟩ := h4 (by rw [sv_len]; exact h0)
  rw [e] at e'
  injection e' with e'
  injection e' with e1
  omega
def noRef : Value := .agg #[.slice none 0 0]
theorem Rs.none_ (w : World) (N : Nat → Prop) : Rs w N noRef [] := ⟨none, 0, rfl, Nat.le_refl _, by unfold maxLen; omega, SlV.nil _ _, by simp⟩
theorem Rs.of_own {w : World} {M : Nat} {v : Value} {P : Parts} (h : Ow w M 9 v (sv P)) : Rs w (fun b => M ≤ b) (.agg #[v]) P := by
  obtain ⟨a, cap, rfl, h1, h2, h3, h4⟩ := h.form
  rw [sv_len] at h1 ⊢
  refine ⟨a, cap, rfl, h1, h2, h3, fun b o _ e => (h.lt b (h4 b o e)).1⟩

set_option maxHeartbeats 1000000 in
theorem ref5_text {w : World} {N : Nat → Prop} {v : Value} {P : Parts} (h : Rs w N v P) (ht : tot P ≤ 1000000) (hn : P.length ≤ 1000000) :
    Calls Try.prog 52 #[v] w fun e w' => e = .returned (.string (st P.flatten)) ∧ Fr [] w w' := by
  obtain ⟨a, cap, rfl, h1, h2, h3, _⟩ := h
  have hpi : (P.length : Int) ≤ 1000000 := by omega
  have f0 : Fr [] w (w.alloc (.cells #[.slice a P.length cap] 69)) := (Fr.refl _ _).alloc _
  have hsw := h3.keep f0 (by simp)
  clear h3
  go_enter Try.func52, Try.ntmps52
  go_wp2_with fail
  have c0 : (w.alloc (.cells #[.slice a P.length cap] 69)).cell? ⟨w.heap.size, 0, none⟩ = some (.slice a P.length cap) := cell_of (newA rfl)
  generalize (w.alloc (.cells #[.slice a P.length cap] 69)) = W at *
  go_loop [3, 4] (fun s i => ∃ k : Nat, k ≤ P.length ∧ i = .int .i64 k ∧ s = .string (st (P.take k).flatten)) (fun _ i => P.length - (intOf i).toNat)
  case atStart => exact ⟨0, by omega, rfl, rfl⟩
  case round =>
    obtain ⟨k, hk, rfl, rfl⟩ := hrel
    by_cases hlt : (k : Int) < P.length
    · have hlt' : k < P.length := by omega
      obtain ⟨sb, so, rfl, hsb, hcell⟩ := hsw.str_at hlt'
      have hnext : (P.take (k + 1)).flatten = (P.take k).flatten ++ P[k] := by
        rw [List.take_succ_eq_append_getElem hlt', List.flatten_append]
        simp
      have hle := tot_take_le P (k + 1)
      unfold tot at hle ht
      rw [hnext, List.length_append] at hle
      generalize P[k] = p at *
      generalize (P.take k).flatten = F at *
      have HN := Lib.hid hnext
      have hb : (F.length : Int) + p.length ≤ 1000000 := by omega
      clear hnext hle
      go_wp2_with fail
      go_round
      case rel => exact ⟨k + 1, by omega, by go_num, by rw [HN.out]⟩
      case measure => simp [intOf]; omega
    · have hke : P.take k = P := List.take_of_length_le (by omega)
      rw [hke]
      clear hke
      obtain ⟨F, hF⟩ : ∃ F, P.flatten = F := ⟨_, rfl⟩
      rw [hF]
      have HF := Lib.hid hF
      clear hF
      go_wp2_with fail
      go_ret
      exact ⟨by rw [HF.out]; rfl, f0⟩

set_option maxHeartbeats 1000000 in
theorem ref5_len {w : World} {N : Nat → Prop} {v : Value} {P : Parts} (h : Rs w N v P) (ht : tot P ≤ 1000000000) (hn : P.length ≤ 1000000) :
    Calls Try.prog 98 #[v] w fun e w' => e = .returned (.int .i64 (tot P)) ∧ Fr [] w w' := by
  obtain ⟨a, cap, rfl, h1, h2, h3, _⟩ := h
  have hpi : (P.length : Int) ≤ 1000000 := by omega
  have f0 : Fr [] w (w.alloc (.cells #[.slice a P.length cap] 69)) := (Fr.refl _ _).alloc _
  have hsw := h3.keep f0 (by simp)
  clear h3
  go_enter Try.func98, Try.ntmps98
  go_wp2_with fail
  have c0 : (w.alloc (.cells #[.slice a P.length cap] 69)).cell? ⟨w.heap.size, 0, none⟩ = some (.slice a P.length cap) := cell_of (newA rfl)
  generalize (w.alloc (.cells #[.slice a P.length cap] 69)) = W at *
  go_loop [3, 4] (fun s i => ∃ k : Nat, k ≤ P.length ∧ i = .int .i64 k ∧ s = .int .i64 (tot (P.take k) : Nat)) (fun _ i => P.length - (intOf i).toNat)
  case atStart => exact ⟨0, by omega, rfl, rfl⟩
  case round =>
    obtain ⟨k, hk, rfl, rfl⟩ := hrel
    by_cases hlt : (k : Int) < P.length
    · have hlt' : k < P.length := by omega
      obtain ⟨sb, so, rfl, hsb, hcell⟩ := hsw.str_at hlt'
      have hnext := tot_take_succ hlt'
      have hle := tot_take_le P (k + 1)
      rw [hnext] at hle
      generalize P[k] = p at *
      generalize tot (P.take k) = F at *
      have HN := Lib.hid hnext
      have hb : (F : Int) + p.length ≤ 1000000000 := by omega
      clear hnext hle
      go_wp2_with fail
      go_round
      case rel => exact ⟨k + 1, by omega, by go_num, by rw [HN.out]; go_num⟩
      case measure => simp [intOf]; omega
    · have hke : P.take k = P := List.take_of_length_le (by omega)
      rw [hke]
      clear hke
      go_wp2_with fail
      go_ret
      exact ⟨rfl, f0⟩

theorem own_snoc (Q : Parts) (p : List UInt8) : own (Q ++ [p]) = if p = [] then own Q else own Q ++ [p] := by
  unfold own
  rw [List.filter_append]
  by_cases h : p = []
  · rw [if_pos h, List.filter_cons_of_neg (by simp [h]), List.filter_nil, List.append_nil]
  · rw [if_neg h, List.filter_cons_of_pos (by simpa using List.length_pos_iff.2 h), List.filter_nil]

def RefNew (P : Parts) (w : World) (e : Ending) (w' : World) : Prop :=
  Fr [] w w' ∧ if 1024 < (own P).length then e = .returned (.tuple #[noRef, .int .i64 7]) else if 65536 < tot P then e = .returned (.tuple #[noRef, .int .i64 5]) else ∃ v, e = .returned (.tuple #[v, .int .i64 0]) ∧ Rs w' (fun b => w.heap.size ≤ b) v (own P)

set_option maxHeartbeats 2000000 in
theorem ref5_new {w : World} {a : Option Addr} {len cap : Nat} {P : Parts} (h : SlV w a (sv P)) (hl : len = P.length) (hn : P.length ≤ 100000) (ht : tot P ≤ 1000000) :
    Calls Try.prog 44 #[.slice a len cap] w (RefNew P w) := by
  subst hl
  have hi : (P.length : Int) ≤ 100000 := by omega
  have HU : Hid (Try.prog.underlying 61 = some (.slice 9)) := Lib.hid Try.underlying61
  have HIN : Hid ((Try.prog.info? 9).map (fun i => (i.zero, i.size, i.bytes)) = some (some (.string ByteArray.empty), 1, 16)) := Lib.hid (by kernel_rfl)
  go_enter Try.func44, Try.ntmps44
  go_wp2_with fail
  obtain ⟨W, hW, f0, b0, b1⟩ : ∃ W, W = (w.alloc (.cells #[.slice none 0 0] 69)).alloc (.cells #[.slice none 0 0] 69) ∧ Fr [] w W ∧ W.heap[w.heap.size]? = some (.cells #[.slice none 0 0] 69 (0, 0)) ∧ W.heap[w.heap.size + 1]? = some (.cells #[.slice none 0 0] 69 (0, 0)) := ⟨_, rfl, ((Fr.refl _ _).alloc _).alloc _, keepA (newA rfl), newA (by simp)⟩
  have s0 : w.heap.size + 1 < W.heap.size := lt_of_heap b1
  rw [← hW]
  clear hW
  generalize hB : w.heap.size = B at *
  have hBl : w.heap.size ≤ B := by omega
  have hBr : B ≤ w.heap.size := by omega
  clear hB
  go_loopw [5] (fun i wr => ∃ (k : Nat) (v : Value), k ≤ P.length ∧ i = .int .i64 k ∧ wr.heap[B + 1]? = some (.cells #[v] 69 (0, 0)) ∧ Ow wr W.heap.size 9 v (sv (own (P.take k))) ∧ wr.heap[B]? = some (.cells #[.slice none 0 0] 69 (0, 0)) ∧ Fr [] w wr ∧ W.heap.size ≤ wr.heap.size) (fun i _ => P.length - (intOf i).toNat)
  case atStart => exact ⟨0, _, by omega, rfl, b1, Ow.nil _ _ _, b0, f0, Nat.le_refl _⟩
  case round =>
    obtain ⟨k, v, hk, rfl, q1, ow, q0, g, hW⟩ := hrel
    clear b0 b1 f0
    have x0 : wr.cell? ⟨B + 1, 0, none⟩ = some v := cell_of q1
    have x1 : wr.frozen? ⟨B + 1, 0, none⟩ = false := free_of q1
    by_cases hlt : (k : Int) < P.length
    · have hlt' : k < P.length := by omega
      obtain ⟨sb, so, rfl, hsb, hcell⟩ := (h.keep g (by simp)).str_at hlt'
      have hnext := own_snoc (P.take k) P[k]
      rw [← List.take_succ_eq_append_getElem hlt'] at hnext
      have hol : (own (P.take k)).length ≤ 100000 := Nat.le_trans (List.length_filter_le _ _) (by rw [List.length_take]; omega)
      generalize P[k] = p at *
      generalize own (P.take k) = Q at *
      by_cases hp : p = []
      · rw [if_pos hp] at hnext
        have HN := Lib.hid hnext
        clear hnext
        subst hp
        go_wp2_with fail
        go_roundw
        case rel => exact ⟨k + 1, v, by omega, by go_num, q1, by rw [HN.out]; exact ow, q0, g, hW⟩
        case measure => simp [intOf]; omega
      · rw [if_neg hp] at hnext
        have HN := Lib.hid hnext
        clear hnext
        have H3 : Hid ((sv Q).length + 1 ≤ maxLen) := Lib.hid (by rw [sv_len]; unfold maxLen; omega)
        have H4 : Hid (((sv Q).length + 1) * 16 ≤ 140737488355328) := Lib.hid (by rw [sv_len]; omega)
        have HOW := Lib.hid fun (w' : World) (f : Fr [] wr w') => ow.keep f (by simp)
        have hob := ow.lt
        have hpe : p.isEmpty = false := by cases p; exact absurd rfl hp; rfl
        have y0 : (wr.alloc (.cells #[.string (st p)] 9)).cell? ⟨B + 1, 0, none⟩ = some v := cell_of (keepA q1)
        go_wp2_with fail
        go_region_law ((refine step_append_fr (by simp [Region.wanted, yielded]) (.tmp 18) (.tmp 23) 61 (by rfl) 9 (.string ByteArray.empty) 16 HU.out HIN.out rfl W.heap.size v (sv Q) (by simp [Act.eval]) (HOW.out _ ((Fr.refl _ _).drew.alloc _)) (some ⟨wr.heap.size, 0, none⟩) 1 1 [.string (st p)] (by simp [Act.eval]) rfl (SlV.box wr.drew _ _) (one_string _) H3.out H4.out (by simp; omega) ?_; intro v' w3 own3 f3; rw [sv_snoc] at own3; obtain ⟨ga, gc, rfl, _⟩ := own3.form; have hm3 : B + 1 ∉ v.ownBlock.toList := (fun hm => by have := hob (B + 1) (by simpa using hm); omega); have q3 := f3.keep (keepA (w := wr.drew) q1) hm3; have x2 := cell_of (i := 0) q3; have x3 := free_of (i := 0) q3; have g3 : Fr [] w w3 := ((g.drew.alloc _).own f3 (fun k e => .inr (by have := hob k e; omega))); have s3 := f3.size; have q4 := f3.keep (keepA (w := wr.drew) q0) (fun hm => by have := hob B (by simpa using hm); omega)))
        all_goals
          go_wp2_with fail
          go_roundw
          case rel =>
            have f5 : Fr [B + 1] w3 (w3.setCell ⟨B + 1, 0, none⟩ (.slice ga (sv (Q ++ [p])).length gc)) := (Fr.refl _ _).setCell (.inl (by simp)) _
            have q5 := heap_setCell_eq (i := 0) (u := .slice ga (sv (Q ++ [p])).length gc) q3
            exact ⟨k + 1, _, by omega, by go_num, by simpa using q5, by rw [HN.out]; exact own3.keep f5 (fun j e hm => by have := (own3.lt j e).1; simp at hm; omega), keepS q4 (by simp), g3.setCell (.inr (by simp; omega)) _, by rw [World.size_setCell]; have := s3; simp at this; omega⟩
          case measure => simp [intOf]; omega
    · have hke : P.take k = P := List.take_of_length_le (by omega)
      rw [hke] at ow
      clear hke
      have hot : tot (own P) = tot P := by unfold tot; rw [own_flat]
      obtain ⟨ga, gc, rfl, h1, h2, h3, _⟩ := ow.form
      have hrs := Rs.of_own ow
      obtain ⟨Q, hQ⟩ : ∃ Q, own P = Q := ⟨_, rfl⟩
      have hQl : (Q.length : Int) ≤ 100000 := by have : (own P).length ≤ P.length := List.length_filter_le _ _; rw [hQ] at this; omega
      have hQt : tot Q ≤ 1000000 := by rw [← hQ, hot]; exact ht
      rw [hQ] at ow h1 hrs hot x0 q1
      rw [sv_len] at h1 hrs x0 q1
      have HLEN := Lib.hid (ref5_len hrs (by omega) (by omega))
      have z0 : wr.cell? ⟨B, 0, none⟩ = some (.slice none 0 0) := cell_of q0
      have z1 : wr.frozen? ⟨B, 0, none⟩ = false := free_of q0
      have HH := Lib.hid (And.intro hQ hot)
      clear hQ hot ow h h3
      by_cases hc : (1024 : Int) < Q.length
      · go_wp2_with fail
        have b6 := heap_setCell_eq (i := 0) (u := .slice none 0 0) q0
        have y6 : (wr.setCell ⟨B, 0, none⟩ (.slice none 0 0)).cell? ⟨B, 0, none⟩ = some (.slice none 0 0) := by rw [cell_of b6]; simp
        refine bodyPost_ret (v := .tuple #[noRef, .int .i64 7]) (by simp [results, Try.results44, go_sem, noRef, y6]) rfl ?_
        refine ⟨g.setCell (.inr (by simp; omega)) _, ?_⟩
        rw [HH.out.1, if_pos (by omega)]
      · go_wp2_with fail
        refine HLEN.out.mono ?_
        rintro e w2 ⟨rfl, f2⟩
        have q2 := f2.keep q0 (by simp)
        have q3 := f2.keep q1 (by simp)
        have r2 := hrs.keep f2 (by simp)
        have g2 := g.then0 f2
        have s2 := f2.size
        have z2 : w2.cell? ⟨B, 0, none⟩ = some (.slice none 0 0) := cell_of q2
        have z3 : w2.frozen? ⟨B, 0, none⟩ = false := free_of q2
        have z4 : w2.cell? ⟨B + 1, 0, none⟩ = some (.slice ga Q.length gc) := cell_of q3
        clear HLEN z0 z1 x0 x1 q0 q1 hrs
        by_cases hs : (65536 : Int) < tot Q
        · go_wp2_with fail
          have b6 := heap_setCell_eq (i := 0) (u := .slice none 0 0) q2
          have y6 : (w2.setCell ⟨B, 0, none⟩ (.slice none 0 0)).cell? ⟨B, 0, none⟩ = some (.slice none 0 0) := by rw [cell_of b6]; simp
          refine bodyPost_ret (v := .tuple #[noRef, .int .i64 5]) (by simp [results, Try.results44, go_sem, noRef, y6]) rfl ?_
          refine ⟨g2.setCell (.inr (by simp; omega)) _, ?_⟩
          rw [HH.out.1, if_neg (by omega), ← HH.out.2, if_pos (by omega)]
        · go_wp2_with fail
          have b6 := heap_setCell_eq (i := 0) (u := .slice ga Q.length gc) q2
          have y6 : (w2.setCell ⟨B, 0, none⟩ (.slice ga Q.length gc)).cell? ⟨B, 0, none⟩ = some (.slice ga Q.length gc) := by rw [cell_of b6]; simp
          refine bodyPost_ret (v := .tuple #[.agg #[.slice ga Q.length gc], .int .i64 0]) (by simp [results, Try.results44, go_sem, y6]) rfl ?_
          refine ⟨g2.setCell (.inr (by simp; omega)) _, ?_⟩
          rw [HH.out.1, if_neg (by omega), ← HH.out.2, if_neg (by omega)]
          exact ⟨_, rfl, (r2.keep (S := [B]) ((Fr.refl _ _).setCell (.inl (by simp)) _) (by intro x hx; simp at hx; subst hx; omega)).mono (fun x hx => by omega)⟩
end Go.Proofs.Ytpkgjgfdobcboaa
