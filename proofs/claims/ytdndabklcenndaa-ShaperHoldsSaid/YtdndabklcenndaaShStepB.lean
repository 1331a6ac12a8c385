/-
  Law 41: step: what it leaves; the document's shaper beside the program's.
-/
import Derived.Test.YtdndabklcenndaaShBy
import Derived.Test.YtdndabklcenndaaShCopy
namespace Go.Proofs.Ytdndabklcenndaa
open Go.RowKit
set_option maxRecDepth 100000

theorem wrong41_bad {now last : Int} {c0 c1 c2 c3 c4 c5 c6 c7 c8 c9 : Value} (w : World) (h : now < last ∨ now = 18446744073709551615) :
    Calls Try.prog 58 #[.agg #[c0, c1, c2, c3, c4, c5, c6, c7, c8, c9, .int .u64 last], .int .u64 now] w fun e w' => e = .returned (.int .i64 3) ∧ Fr [] w w' := by
  by_cases h1 : now < last
  · clear h
    go_enter Try.func58, Try.ntmps58
    go_wp2_with fail
    go_ret
    exact ⟨rfl, (Fr.refl _ _).alloc _⟩
  · obtain rfl : now = 18446744073709551615 := h.resolve_left h1
    have h2 : last ≤ 18446744073709551615 := by omega
    clear h h1
    go_enter Try.func58, Try.ntmps58
    go_wp2_with fail
    go_ret
    exact ⟨rfl, (Fr.refl _ _).alloc _⟩
theorem wrong41_ok {now last : Int} {c0 c1 c2 c3 c4 c5 c6 c7 c8 c9 : Value} (w : World) (h : last ≤ now) (h2 : now < 18446744073709551615) :
    Calls Try.prog 58 #[.agg #[c0, c1, c2, c3, c4, c5, c6, c7, c8, c9, .int .u64 last], .int .u64 now] w fun e w' => e = .returned (.int .i64 0) ∧ Fr [] w w' := by
  have h3 : (now == 18446744073709551615) = false := by simp; omega
  go_enter Try.func58, Try.ntmps58
  go_wp2_with fail
  go_ret
  exact ⟨rfl, (Fr.refl _ _).alloc _⟩

/-- The document's shaper, which is the value v, beside the program's. -/
structure Md (w : World) (L : List Nat) (mb : Nat) (s : SH) (v : Value) : Prop where
  ex : ∃ ma nl mc now0, v = .agg #[.pointer (some ⟨mb, 0, none⟩), .int .i64 s.r, .int .i64 s.p, .int .i64 s.u, .int .i64 s.lat, .int .i64 s.lim, .int .u64 now0, .slice ma nl mc, .bool s.closed, .int .u64 s.fin, .int .u64 s.last] ∧ ByV w L ma (flatS s.segs) ∧ nl = (flatS s.segs).length ∧ nl ≤ mc ∧ mc ≤ maxLen
  bk : BkAt w mb s.r s.p s.u s.l s.t
  mb : mb ∉ L
theorem Md.keep {w w' : World} {L L' : List Nat} {mb : Nat} {s : SH} {v : Value} (h : Md w L mb s v) {T : List Nat} (f : Fr T w w') (hT : ∀ y ∈ T, y ∈ L ∨ w.heap.size ≤ y) (hL : ∀ y ∈ L', y ∈ L ∨ w.heap.size ≤ y) : Md w' L' mb s v := by
  obtain ⟨⟨ma, nl, mc, now0, e, hb, h1, h2, h3⟩, hk, hm⟩ := h
  have hlt := lt_of_heap hk
  exact ⟨⟨ma, nl, mc, now0, e, hb.keep f hT hL, h1, h2, h3⟩, f.keep hk (fun hx => (hT _ hx).elim hm (by omega)), fun hx => (hL _ hx).elim hm (by omega)⟩
theorem m41_result3 {w : World} {b p u t : Nat} {cs : Array Value} {fn : Func} {tmps : Array Value} {x y : Value} (q : w.heap[b]? = some (.cells cs 64 (0, 0))) (hc : (Try.prog.info? 64).map (·.size) = some cs.size) (h : fn.results = #[.tmp u, .cell p 64, .tmp t]) (hu : tmps.getD u undef = x) (hp : tmps.getD p undef = .pointer (some ⟨b, 0, none⟩)) (ht : tmps.getD t undef = y) :
    (results fn tmps).run Try.prog w = .ok (.tuple #[x, .agg cs, y]) w := by
  have hl := run_loadVar_row (P := Try.prog) w b _ _ _ _ _ q Try.underlying64 rfl hc
  have hp' : tmps[p]?.getD undef = .pointer (some ⟨b, 0, none⟩) := by simpa using hp
  have hu' : tmps[u]?.getD undef = x := by simpa using hu
  have ht' : tmps[t]?.getD undef = y := by simpa using ht
  simp [results, h, hp', hu', ht', asAddr, hl]
theorem ByV.keepB {w w' : World} {L : List Nat} {a : Option Addr} {bs : List (UInt8 × Int)} {mb : Nat} {r p u l t : Int} (h : ByV w L a bs) (hk : BkAt w mb r p u l t) (f : Fr [mb] w w') : ByV w' L a bs := fun h0 => by
  obtain ⟨b, o, e, hb, hn, hc⟩ := h h0
  have hne : b ≠ mb := by
    rintro rfl
    have c := (hc 0 _ (List.getElem?_eq_getElem h0)).1
    rw [cell_of hk] at c
    rcases o with _ | _ | _ | _ | _ | o <;> simp at c
  have hbT : b ∉ [mb] := by simpa using hne
  exact ⟨b, o, e, Nat.lt_of_lt_of_le hb f.size, hn, fun i x hx => ⟨(World.cell?_of_block (w := w) (f.block b hb hbT)).trans (hc i x hx).1, (World.cell?_of_block (w := w) (f.block b hb hbT)).trans (hc i x hx).2⟩⟩
def Step41 (w : World) (L Lm : List Nat) (mb : Nat) (s2 : SH) (e : Ending) (w' : World) : Prop :=
  ∃ b' k' L' v', e = .returned (.tuple #[.pointer (some ⟨b', 0, none⟩), v', .bool true]) ∧ Fr (mb :: L) w w' ∧ Shp w' L' b' k' s2 ∧ Md w' (L' ++ Lm) mb s2 v' ∧ ∀ y ∈ L', y ∈ L ∨ w.heap.size ≤ y
end Go.Proofs.Ytdndabklcenndaa
