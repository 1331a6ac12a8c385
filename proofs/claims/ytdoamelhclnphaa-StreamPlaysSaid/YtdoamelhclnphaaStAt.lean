/-
  Package stream: what a stream is in memory; a call through its store.
-/
import Derived.Test.YtdoamelhclnphaaStStore
import Derived.ChangeKeysEq
namespace Go.Proofs.Ytdoamelhclnphaa
open Go.RowKit
set_option maxRecDepth 100000

theorem mb_fill (v : Value) (w : World) : (method (Try.prog.types.size + Made.depth) 162 (.agg #[v]) "aqueduct/stream.fill").run Try.prog w = .ok (151, .agg #[v]) w := by kernel_rfl
theorem md_fill (w : World) : (method (Try.prog.types.size + Made.depth) 160 (.agg #[]) "aqueduct/stream.fill").run Try.prog w = .ok (145, .agg #[]) w := by kernel_rfl
theorem mb_take (v : Value) (w : World) : (method (Try.prog.types.size + Made.depth) 162 (.agg #[v]) "aqueduct/stream.take").run Try.prog w = .ok (154, .agg #[v]) w := by kernel_rfl
theorem md_take (w : World) : (method (Try.prog.types.size + Made.depth) 160 (.agg #[]) "aqueduct/stream.take").run Try.prog w = .ok (148, .agg #[]) w := by kernel_rfl
theorem mb_held (v : Value) (w : World) : (method (Try.prog.types.size + Made.depth) 162 (.agg #[v]) "aqueduct/stream.held").run Try.prog w = .ok (152, .agg #[v]) w := by kernel_rfl
theorem md_held (w : World) : (method (Try.prog.types.size + Made.depth) 160 (.agg #[]) "aqueduct/stream.held").run Try.prog w = .ok (146, .agg #[]) w := by kernel_rfl
theorem mb_room (v : Value) (w : World) : (method (Try.prog.types.size + Made.depth) 162 (.agg #[v]) "aqueduct/stream.room").run Try.prog w = .ok (153, .agg #[v]) w := by kernel_rfl
theorem md_room (w : World) : (method (Try.prog.types.size + Made.depth) 160 (.agg #[]) "aqueduct/stream.room").run Try.prog w = .ok (147, .agg #[]) w := by kernel_rfl
theorem mb_again (v : Value) (w : World) : (method (Try.prog.types.size + Made.depth) 162 (.agg #[v]) "aqueduct/stream.again").run Try.prog w = .ok (150, .agg #[v]) w := by kernel_rfl
theorem md_again (w : World) : (method (Try.prog.types.size + Made.depth) 160 (.agg #[]) "aqueduct/stream.again").run Try.prog w = .ok (144, .agg #[]) w := by kernel_rfl

/-- A call of a method of an interface value, by the contract of what it comes to. -/
def Invokes (sv : Value) (name : String) (args : Array Value) (w : World) (R : Ending → World → Prop) : Prop :=
  ∃ t v f rv, sv = .iface t v ∧ (∀ w, (method (Try.prog.types.size + Made.depth) t v name).run Try.prog w = .ok (f, rv) w) ∧ (∀ args w, (callFunc f args).run Try.prog w = .ok (.enter f args) w) ∧ Calls Try.prog f (#[rv] ++ args) w R
section
variable {ops : Array Oper} {o : Oper} {a : Act} {w : World} {K : Act → World → Prop} {Q : Exit → Act → World → Prop} {E : Prop}
theorem step_invoke (hw : Region.wanted o (yielded ops a.tmps) = true) (name : String) (recv : Operand) (args : Array Operand) (ts : Array TypeId)
    (hop : o.op = .call { callee := .invoke recv name, args := args, argTypes := ts }) (sv : Value) (hr : a.eval recv = sv)
    (vs : Array Value) (hv : args.map a.eval = vs) {R : Ending → World → Prop} (hc : Invokes sv name vs w R) (hk : ∀ e w', R e w' → ∃ v, e = .returned v ∧ K (a.put o.dst v) w') :
    if Region.wanted o (yielded ops a.tmps) = true then Oper.wp Try.prog o a w K Q else E := by
  rw [if_pos hw]
  obtain ⟨t, v, f, rv, rfl, hm, he, hc⟩ := hc
  subst hv
  unfold Oper.wp
  have hrun : (execOp a.eval o).run Try.prog w = .ok (.enter f (#[rv] ++ args.map a.eval)) w := by
    have hx : ((#[Value.iface t v] ++ args.map a.eval).extract 1 (#[Value.iface t v] ++ args.map a.eval).size) = args.map a.eval := by
      apply Array.ext'
      simp
      exact List.take_of_length_le (by simp)
    have h0 : (#[Value.iface t v] ++ args.map a.eval)[0]? = some (.iface t v) := by
      rw [Array.getElem?_append_left (by simp)]
      rfl
    have hm' := hm w
    simp [go_sem] at hm'
    simp only [execOp, hop, resolve, invoke, Sem.run_bind, Sem.run_pure, Result.andThen_ok, hr, h0, hx]
    simp [callMethod, go_sem, hm', he]
  rw [hrun, Oper.upon_enter]
  refine hc.mono fun e w' hr => ?_
  obtain ⟨v, rfl, h⟩ := hk e w' hr
  exact h
end

/-- The store of a stream. -/
def Sto (w : World) (L : List Nat) (v : Value) (c : Int) (q : List UInt8) : Prop :=
  (c = 0 ∧ q = [] ∧ L = [] ∧ v = .iface 160 (.agg #[])) ∨
    ∃ R D, R ∈ L ∧ D ∈ L ∧ (∀ x ∈ L, x = R ∨ x = D) ∧ 1 ≤ c ∧ v = .iface 162 (.agg #[.pointer (some ⟨R, 0, none⟩)]) ∧ Rg w R D c.toNat (bi q)
theorem Sto.keep {w w' : World} {L : List Nat} {v : Value} {c : Int} {q : List UInt8} (h : Sto w L v c q) {S : List Nat} (hf : Fr S w w') (hS : ∀ x ∈ L, x ∉ S) : Sto w' L v c q :=
  h.imp id fun ⟨R, D, h1, h2, h3, h4, h5, h6⟩ => ⟨R, D, h1, h2, h3, h4, h5, h6.keep hf (hS R h1) (hS D h2)⟩
theorem Sto.bd {w : World} {L : List Nat} {v : Value} {c : Int} {q : List UInt8} (h : Sto w L v c q) : 0 ≤ c ∧ c ≤ 4096 ∧ (q.length : Int) ≤ c := by
  rcases h with ⟨rfl, rfl, _, _⟩ | ⟨R, D, _, _, _, h4, _, h6⟩
  · simp
  · obtain ⟨h1, h2, _⟩ := h6.len_le
    rw [bi_length] at h1
    omega

/-- A stream's own block. -/
def StB (w : World) (b : Nat) (sv : Value) (busy : Bool) (a : Option Addr) (len cap : Nat) (n acc x y : Int) : Prop :=
  w.heap[b]? = some (.cells #[sv, .bool busy, .slice a len cap, .int .i64 n, .int .i64 acc, .int .i64 x, .int .i64 y] 78 (0, 0))
structure StC (w : World) (b : Nat) (sv : Value) (busy : Bool) (a : Option Addr) (len cap : Nat) (n acc x y : Int) : Prop where
  c0 : w.cell? ⟨b, 0, none⟩ = some sv
  c1 : w.cell? ⟨b, 1, none⟩ = some (.bool busy)
  c2 : w.cell? ⟨b, 2, none⟩ = some (.slice a len cap)
  c3 : w.cell? ⟨b, 3, none⟩ = some (.int .i64 n)
  c4 : w.cell? ⟨b, 4, none⟩ = some (.int .i64 acc)
  c5 : w.cell? ⟨b, 5, none⟩ = some (.int .i64 x)
  c6 : w.cell? ⟨b, 6, none⟩ = some (.int .i64 y)
theorem StB.cells {w : World} {b : Nat} {sv : Value} {busy : Bool} {a : Option Addr} {len cap : Nat} {n acc x y : Int} (h : StB w b sv busy a len cap n acc x y) : StC w b sv busy a len cap n acc x y :=
  ⟨cell_of h, cell_of h, cell_of h, cell_of h, cell_of h, cell_of h, cell_of h⟩
theorem StB.free {w : World} {b : Nat} {sv : Value} {busy : Bool} {a : Option Addr} {len cap : Nat} {n acc x y : Int} (h : StB w b sv busy a len cap n acc x y) (i : Nat) : w.frozen? ⟨b, i, none⟩ = false := free_of h

/-- A stream at block b that holds m; the blocks of its ring are those of L; the parts of its rest lie where N allows. -/
structure StR (w : World) (N : Nat → Prop) (L : List Nat) (b : Nat) (m : SM) (sv : Value) (a : Option Addr) (cap : Nat) (P : Parts) : Prop where
  k : StB w b sv m.busy a P.length cap (tot P) m.acc m.w m.r
  s : Sto w L sv m.c m.q
  p : Rp w N (.agg #[.slice a P.length cap, .int .i64 (tot P)]) P
  e : P.flatten = m.rest
  nb : ¬ N b
  nl : ∀ x ∈ L, ¬ N x
  bl : b ∉ L
def St (w : World) (N : Nat → Prop) (L : List Nat) (b : Nat) (m : SM) : Prop := SOk m ∧ ∃ sv a cap P, StR w N L b m sv a cap P
section
variable {w : World} {N : Nat → Prop} {L : List Nat} {b : Nat} {m : SM} {sv : Value} {a : Option Addr} {cap : Nat} {P : Parts}
theorem StR.keep {w' : World} (h : StR w N L b m sv a cap P) {S : List Nat} (hf : Fr S w w') (hb : b ∉ S) (hL : ∀ x ∈ L, x ∉ S) (hS : ∀ x ∈ S, ¬ N x) : StR w' N L b m sv a cap P :=
  ⟨hf.keep h.k hb, h.s.keep hf hL, h.p.keep hf hS, h.e, h.nb, h.nl, h.bl⟩
theorem StR.keep0 {w' : World} (h : StR w N L b m sv a cap P) (hf : Fr [] w w') : StR w' N L b m sv a cap P := h.keep hf (by simp) (by simp) (by simp)
theorem St.keep {w' : World} (h : St w N L b m) {S : List Nat} (hf : Fr S w w') (hb : b ∉ S) (hL : ∀ x ∈ L, x ∉ S) (hS : ∀ x ∈ S, ¬ N x) : St w' N L b m := by
  obtain ⟨h0, sv, a, cap, P, h1⟩ := h
  exact ⟨h0, sv, a, cap, P, h1.keep hf hb hL hS⟩
theorem St.keep0 {w' : World} (h : St w N L b m) (hf : Fr [] w w') : St w' N L b m := h.keep hf (by simp) (by simp) (by simp)
theorem St.lt (h : St w N L b m) : b < w.heap.size := by
  obtain ⟨h0, sv, a, cap, P, h1⟩ := h
  exact lt_of_heap h1.k
theorem Sto.lt {q : List UInt8} {c : Int} (h : Sto w L sv c q) : ∀ x ∈ L, x < w.heap.size := by
  rcases h with ⟨_, _, rfl, _⟩ | ⟨R, D, _, _, h3, _, _, h6⟩
  · simp
  · intro x hx
    obtain ⟨_, _, _, _, h7, h8⟩ := h6.len_le
    rcases h3 x hx with rfl | rfl
    · exact h7
    · exact h8
/-- The parts lie in what is there. -/
theorem St.there (h : St w N L b m) : St w (fun x => N x ∧ x < w.heap.size) L b m := by
  obtain ⟨h0, sv, a, cap, P, h1⟩ := h
  exact ⟨h0, sv, a, cap, P, h1.k, h1.s, h1.p.there, h1.e, fun h => h1.nb h.1, fun x hx h => h1.nl x hx h.1, h1.bl⟩
/-- What a call leaves: the stream's own blocks were written, no others. -/
def SP (w : World) (N : Nat → Prop) (L : List Nat) (b : Nat) (m' : SM) (w' : World) : Prop :=
  Fr (b :: L) w w' ∧ ∃ (N' : Nat → Prop) (L' : List Nat), (∀ x, N' x → N x ∨ w.heap.size ≤ x) ∧ (∀ x ∈ L', x ∈ L ∨ w.heap.size ≤ x) ∧ St w' N' L' b m'
theorem SP.same (h : St w N L b m) {w' : World} (hf : Fr [] w w') : SP w N L b m w' := ⟨hf.mono (by simp), N, L, fun _ => .inl, fun _ => .inl, h.keep0 hf⟩

theorem eq_two (w : World) (x y x' y' : Int) : (Op.equalIn 10000 76 (.agg #[.int .i64 x, .int .i64 y]) (.agg #[.int .i64 x', .int .i64 y'])).run Try.prog w = .ok (x == x' && y == y') w := by
  have hp : ∀ (x y : Int) (w : World), (part 30 #[.int .i64 x, .int .i64 y] 0).run Try.prog w = .ok (.int .i64 x) w := fun _ _ _ => by kernel_rfl
  have hq : ∀ (x y : Int) (w : World), (part 30 #[.int .i64 x, .int .i64 y] 1).run Try.prog w = .ok (.int .i64 y) w := fun _ _ _ => by kernel_rfl
  have he : ∀ (x y : Int) (w : World), (Op.equalIn 9999 30 (.int .i64 x) (.int .i64 y)).run Try.prog w = .ok (x == y) w := fun x y w => run_equalIn_int w 9998 _ .i64 .i64 x y Try.underlying30
  obtain ⟨i, hi⟩ : ∃ i, Try.prog.info? 30 = some i := Option.isSome_iff_exists.1 (by kernel_rfl)
  have hc : Try.prog.cellsOf 30 = 1 := by kernel_rfl
  rw [show (10000 : Nat) = 9999 + 1 from rfl, run_equalIn_array w 9999 _ _ Try.underlying76 hi, hc, show List.range 2 = [0, 1] from rfl]
  simp only [Op.eqItems, Sem.run_bind, Nat.zero_mul, Nat.one_mul, hp, hq, he, Result.andThen_ok]
  cases (x == x')
  · simp
  · simp only [Bool.not_true, Bool.false_eq_true, if_false, Sem.run_bind, hq, he, Result.andThen_ok, Bool.true_and]
    cases (y == y') <;> simp
theorem st_none (h : StR w N L b m sv a cap P) :
    Calls Try.prog 77 #[.pointer (some ⟨b, 0, none⟩)] w fun e w' => e = .returned (.bool false) ∧ w = w' := by
  obtain ⟨c0, _, _, _, _, _, _⟩ := h.k.cells
  rcases h.s with ⟨_, _, _, rfl⟩ | ⟨R, D, _, _, _, _, rfl, _⟩
  · clear h
    go_enter Try.func77, Try.ntmps77
    go_wp2
    go_ret
    exact ⟨rfl, rfl⟩
  · clear h
    go_enter Try.func77, Try.ntmps77
    go_wp2
    go_ret
    exact ⟨rfl, rfl⟩
/-- No stream, or a zero one. -/
def Zst (w : World) (r : Option Addr) : Prop := r = none ∨ ∃ b, r = some ⟨b, 0, none⟩ ∧ StB w b .nilIface false none 0 0 0 0 0 0
theorem Zst.keep {w w' : World} {r : Option Addr} (h : Zst w r) (f : Fr [] w w') : Zst w' r := h.imp id fun ⟨b, e, q⟩ => ⟨b, e, f.keep q (by simp)⟩
theorem none_z {r : Option Addr} (h : Zst w r) :
    Calls Try.prog 77 #[.pointer r] w fun e w' => e = .returned (.bool true) ∧ w = w' := by
  rcases h with rfl | ⟨b, rfl, q⟩
  · skip
    go_enter Try.func77, Try.ntmps77
    go_wp2
    go_ret
    exact ⟨rfl, rfl⟩
  · obtain ⟨c0, _, _, _, _, _, _⟩ := q.cells
    go_enter Try.func77, Try.ntmps77
    go_wp2
    go_ret
    exact ⟨rfl, rfl⟩
theorem st_open (h : StR w N L b m sv a cap P) :
    Calls Try.prog 79 #[.pointer (some ⟨b, 0, none⟩)] w fun e w' => e = .returned (.bool (opM m)) ∧ w = w' := by
  obtain ⟨_, _, _, _, _, c5, c6⟩ := h.k.cells
  have hq := fun w => eq_two w m.w m.r 0 0
  unfold opM
  clear h
  go_enter Try.func79, Try.ntmps79
  go_wp2_with fail
  go_ret
  exact ⟨rfl, rfl⟩
theorem stm_of (c : Int) (w : World) (h0 : 0 ≤ c) (h1 : c ≤ 4096) :
    Calls Try.prog 74 #[.int .i64 c] w fun e w' => ∃ t v L, e = .returned (.iface t v) ∧ Fr [] w w' ∧ (∀ x ∈ L, w.heap.size ≤ x ∧ x < w'.heap.size) ∧ Sto w' L (.iface t v) c [] := by
  by_cases hc : c = 0
  · subst hc
    go_enter Try.func74, Try.ntmps74
    go_wp2_with fail
    go_ret
    exact ⟨_, _, [], rfl, Fr.refl _ _, by simp, .inl ⟨rfl, rfl, rfl, rfl⟩⟩
  · have hc' : (c == 0) = false := by simpa using hc
    obtain ⟨n, rfl⟩ := Int.eq_ofNat_of_zero_le h0
    have HN := Lib.hid (rg_new n w (by omega) (by omega))
    have hn1 : 1 ≤ n := by omega
    clear hc
    go_enter Try.func74, Try.ntmps74
    go_wp2_with fail
    refine HN.out.mono ?_
    rintro e w1 ⟨rfl, f1, g1⟩
    obtain ⟨_, _, _, _, l1, l2⟩ := g1.len_le
    go_wp2_with fail
    go_ret
    exact ⟨_, _, [w.heap.size + 1, w.heap.size], rfl, f1, fun x hx => by simp at hx; omega, .inr ⟨w.heap.size + 1, w.heap.size, by simp, by simp, fun x hx => by simpa using hx, by omega, rfl, g1⟩⟩
theorem st_new (c : Int) (w : World) (h0 : 0 ≤ c) (h1 : c ≤ 4096) :
    Calls Try.prog 27 #[.int .i64 c] w fun e w' => ∃ b L, e = .returned (.tuple #[.pointer (some ⟨b, 0, none⟩), .int .i64 0]) ∧ Fr [] w w' ∧ w.heap.size ≤ b ∧ b < w'.heap.size ∧ (∀ x ∈ L, w.heap.size ≤ x ∧ x < w'.heap.size) ∧ St w' (fun _ => False) L b (newM c) := by
  have HO := Lib.hid (stm_of c w h0 h1)
  go_enter Try.func27, Try.ntmps27
  go_wp2_with fail
  refine HO.out.mono ?_
  rintro e w1 ⟨st, sv, L, rfl, f1, hL, hs⟩
  have HS := Lib.hid hs
  have HL := Lib.hid hL
  have hz := f1.size
  clear hs hL
  go_wp2_with fail
  go_ret2
  have fA : ∀ o, Fr [] w1 (w1.alloc o) := fun o => (Fr.refl _ _).alloc o
  refine ⟨w1.heap.size, L, rfl, f1.alloc _, hz, by simp, fun x hx => ⟨(HL.out x hx).1, by have := (HL.out x hx).2; simp; omega⟩, newM_ok h0 h1, .iface st sv, none, 0, [], ?_⟩
  exact ⟨newA rfl, HS.out.keep (fA _) (by simp), (Rp.none_ _ _), rfl, fun h => h, fun _ _ h => h, fun hm => by have := (HL.out _ hm).2; omega⟩
theorem st_new_bad (c : Int) (w : World) (h : c < 0 ∨ 4096 < c) :
    Calls Try.prog 27 #[.int .i64 c] w fun e w' => e = .returned (.tuple #[.pointer none, .int .i64 2]) ∧ w = w' := by
  by_cases h1 : c < 0
  · clear h
    go_enter Try.func27, Try.ntmps27
    go_wp2_with fail
    go_ret2
    exact ⟨rfl, rfl⟩
  · have h2 : 4096 < c := by omega
    have h3 : 0 ≤ c := by omega
    clear h h1
    go_enter Try.func27, Try.ntmps27
    go_wp2_with fail
    go_ret2
    exact ⟨rfl, rfl⟩

/-- The store's methods. -/
theorem StB.set2 {a' : Option Addr} {len len' cap' : Nat} {n n' acc x y : Int} {busy : Bool} {w' : World} (h : StB w b sv busy a len cap n acc x y)
    (h' : w'.heap[b]? = some (.cells ((#[sv, .bool busy, .slice a len cap, .int .i64 n, .int .i64 acc, .int .i64 x, .int .i64 y].setIfInBounds 2 (.slice a' len' cap')).setIfInBounds (2 + 1) (.int .i64 n')) 78 (0, 0))) : StB w' b sv busy a' len' cap' n' acc x y := by
  unfold StB
  rw [h']
  simp
theorem sto_fill (h : StR w N L b m sv a cap P) :
    Invokes sv "aqueduct/stream.fill" #[.pointer (some ⟨b, 2, none⟩)] w fun e w' => ∃ a' cap' P', e = .returned (.int .i64 (min (roomM m) m.rest.length : Nat)) ∧ Fr (b :: L) w w' ∧
      StR w' (fun x => N x ∨ w.heap.size ≤ x) L b { m with q := m.q ++ m.rest.take (roomM m), rest := m.rest.drop (roomM m) } sv a' cap' P' := by
  obtain ⟨hk, hs, hp, he, hnb, hnl, hbl⟩ := h
  have hblt := lt_of_heap hk
  have hll := hs.lt
  have htl : tot P = m.rest.length := by rw [← he]; rfl
  have hnl' : ∀ x ∈ L, ¬ (N x ∨ w.heap.size ≤ x) := fun x hx h => by
    have := hll x hx
    rcases h with h | h
    · exact hnl x hx h
    · omega
  have hnb' : ¬ (N b ∨ w.heap.size ≤ b) := by rintro (h | h); exact hnb h; omega
  rcases hs with ⟨hc, hq, hL, rfl⟩ | ⟨R, D, hR, hD, hLL, hc, rfl, hg⟩
  · refine ⟨_, _, _, _, rfl, md_fill, Go.Proofs.enters_of Try.func145 (by kernel_rfl) rfl, (dir_fill _).mono ?_⟩
    rintro e w' ⟨rfl, f⟩
    have hr0 : roomM m = 0 := by unfold roomM; rw [hc, hq]; rfl
    rw [hr0]
    exact ⟨a, cap, P, by simp, f.mono (by simp), f.keep hk (by simp), .inl ⟨hc, by simp [hq], hL, rfl⟩, (hp.keep f (by simp)).mono (fun _ => .inl), by simpa using he, hnb', hnl', hbl⟩
  · have hC : m.c.toNat - m.q.length = roomM m := by unfold roomM; omega
    have hbR : b ≠ R := fun e => hbl (e ▸ hR)
    have hbD : b ≠ D := fun e => hbl (e ▸ hD)
    refine ⟨_, _, _, _, rfl, mb_fill _, Go.Proofs.enters_of Try.func151 (by kernel_rfl) rfl, (buf_fill hk (by rfl) (by rfl) hp hnb (.inr rfl) hg hbR hbD (hnl R hR) (hnl D hD)).mono ?_⟩
    rintro e w' ⟨a', cap', P', rfl, f, hb', hp', he', hg'⟩
    rw [hC] at he' hg'
    rw [hC, htl]
    rw [he] at he' hg'
    refine ⟨a', cap', P', rfl, f.mono (fun x hx => .inl (by simp at hx ⊢; rcases hx with rfl | rfl | rfl; exact .inl rfl; exact .inr hR; exact .inr hD)), StB.set2 hk hb', .inr ⟨R, D, hR, hD, hLL, hc, rfl, hg'⟩, hp', he', hnb', hnl', hbl⟩
def takeM (m : SM) (n : Nat) : SM := if m.c = 0 then { m with rest := m.rest.drop n } else { m with q := m.q.drop n }
def takeO (m : SM) (n : Nat) : List UInt8 := if m.c = 0 then m.rest.take n else m.q.take n
def takeN (m : SM) (n : Nat) : Nat := if m.c = 0 then min n m.rest.length else 0
def TakePostS (w : World) (N : Nat → Prop) (L : List Nat) (b : Nat) (m : SM) (sv : Value) (n : Nat) (out : List UInt8) (S : List Nat) (e : Ending) (w' : World) : Prop :=
  ∃ Z u a' cap' P', e = .returned (.tuple #[u, .int .i64 n]) ∧ Fr S w w' ∧ w.heap.size ≤ Z ∧ Ow w' Z 5 u ((bi out).map (Value.int .u8)) ∧ StR w' (fun x => (N x ∨ w.heap.size ≤ x) ∧ x < Z) L b m sv a' cap' P'
theorem sto_take (h : StR w N L b m sv a cap P) {most : Int} (h0 : 0 ≤ most) :
    Invokes sv "aqueduct/stream.take" #[.int .i64 most, .pointer (some ⟨b, 2, none⟩)] w (TakePostS w N L b (takeM m most.toNat) sv (takeN m most.toNat) (takeO m most.toNat) (b :: L)) := by
  obtain ⟨hk, hs, hp, he, hnb, hnl, hbl⟩ := h
  have hblt := lt_of_heap hk
  have hll := hs.lt
  have htl : tot P = m.rest.length := by rw [← he]; rfl
  have hnl' : ∀ Z, ∀ x ∈ L, ¬ ((N x ∨ w.heap.size ≤ x) ∧ x < Z) := fun Z x hx h => by
    have := hll x hx
    rcases h.1 with h | h
    · exact hnl x hx h
    · omega
  have hnb' : ∀ Z, ¬ ((N b ∨ w.heap.size ≤ b) ∧ b < Z) := by rintro Z ⟨h | h, _⟩; exact hnb h; omega
  unfold takeM takeN takeO
  rcases hs with ⟨hc, hq, hL, rfl⟩ | ⟨R, D, hR, hD, hLL, hc, rfl, hg⟩
  · rw [if_pos hc, if_pos hc, if_pos hc]
    refine ⟨_, _, _, _, rfl, md_take, Go.Proofs.enters_of Try.func148 (by kernel_rfl) rfl, (dir_take hk (by rfl) (by rfl) hp hnb (.inr rfl) h0).mono ?_⟩
    rintro e w' ⟨Z, u, a', cap', P', rfl, f, hb', hZ, hp', he', ou⟩
    rw [htl]
    rw [he] at he' ou
    exact ⟨Z, u, a', cap', P', rfl, f.mono (by simp), hZ, ou, StB.set2 hk hb', .inl ⟨hc, hq, hL, rfl⟩, hp', he', hnb' Z, hnl' Z, hbl⟩
  · have hc0 : m.c ≠ 0 := by omega
    rw [if_neg hc0, if_neg hc0, if_neg hc0]
    refine ⟨_, _, _, _, rfl, mb_take _, Go.Proofs.enters_of Try.func154 (by kernel_rfl) rfl, (buf_take hg h0 _).mono ?_⟩
    rintro e w' ⟨u, rfl, f, ou, hg'⟩
    have fn : ∀ x ∈ [R, D], ¬ N x := fun x hx => by simp at hx; rcases hx with rfl | rfl; exact hnl _ hR; exact hnl _ hD
    have fb : b ∉ [R, D] := fun hm => by simp at hm; rcases hm with rfl | rfl; exact hbl hR; exact hbl hD
    exact ⟨w.heap.size, u, a, cap, P, rfl, f.mono (fun x hx => .inl (by simp at hx ⊢; rcases hx with rfl | rfl; exact .inr hR; exact .inr hD)), Nat.le_refl _, ou, f.keep hk fb, .inr ⟨R, D, hR, hD, hLL, hc, rfl, hg'⟩, (hp.there.mono (fun x hx => ⟨.inl hx.1, hx.2⟩)).keep f (fun x hx h => by rcases h.1 with h1 | h1; exact fn x hx h1; omega), he, hnb' _, hnl' _, hbl⟩
/-- With nothing under way. -/
def takeM0 (m : SM) (n : Nat) : SM := { m with q := m.q.drop n }
theorem sto_take0 (h : StR w N L b m sv a cap P) {most : Int} (h0 : 0 ≤ most) {B : Nat} (hB : w.heap[B]? = some (.cells #[.slice none 0 0, .int .i64 0] 57 (0, 0))) (hBb : B ≠ b) (hBL : B ∉ L) (hBN : ¬ N B) :
    Invokes sv "aqueduct/stream.take" #[.int .i64 most, .pointer (some ⟨B, 0, none⟩)] w (TakePostS w N L b (takeM0 m most.toNat) sv 0 (m.q.take most.toNat) (B :: b :: L)) := by
  obtain ⟨hk, hs, hp, he, hnb, hnl, hbl⟩ := h
  have hblt := lt_of_heap hk
  have hll := hs.lt
  have hnl' : ∀ Z, ∀ x ∈ L, ¬ ((N x ∨ w.heap.size ≤ x) ∧ x < Z) := fun Z x hx h => by
    have := hll x hx
    rcases h.1 with h | h
    · exact hnl x hx h
    · omega
  have hnb' : ∀ Z, ¬ ((N b ∨ w.heap.size ≤ b) ∧ b < Z) := by rintro Z ⟨h | h, _⟩; exact hnb h; omega
  unfold takeM0
  rcases hs with ⟨hc, hq, hL, rfl⟩ | ⟨R, D, hR, hD, hLL, hc, rfl, hg⟩
  · refine ⟨_, _, _, _, rfl, md_take, Go.Proofs.enters_of Try.func148 (by kernel_rfl) rfl, (dir_take (P := []) hB (by rfl) (by rfl) (Rp.none_ w (fun _ => False)) (fun h => h) (.inl rfl) h0).mono ?_⟩
    rintro e w' ⟨Z, u, a', cap', P', rfl, f, hb', hZ, hp', he', ou⟩
    have fb : b ∉ [B] := by simp; exact Ne.symm hBb
    rw [hq]
    have fx : Fr (B :: b :: L) w w' := f.mono (by simp)
    refine ⟨Z, u, a, cap, P, by simp [tot], fx, hZ, by simpa using ou, f.keep hk fb, .inl ⟨hc, by simp, hL, rfl⟩, (hp.there.mono (fun x hx => ⟨.inl hx.1, by omega⟩)).keep f (fun x hx h => ?_), he, hnb' Z, hnl' Z, hbl⟩
    simp at hx
    subst hx
    rcases h.1 with h1 | h1
    · exact hBN h1
    · have := lt_of_heap hB
      omega
  · refine ⟨_, _, _, _, rfl, mb_take _, Go.Proofs.enters_of Try.func154 (by kernel_rfl) rfl, (buf_take hg h0 _).mono ?_⟩
    rintro e w' ⟨u, rfl, f, ou, hg'⟩
    have fn : ∀ x ∈ [R, D], ¬ N x := fun x hx => by simp at hx; rcases hx with rfl | rfl; exact hnl _ hR; exact hnl _ hD
    have fb : b ∉ [R, D] := fun hm => by simp at hm; rcases hm with rfl | rfl; exact hbl hR; exact hbl hD
    exact ⟨w.heap.size, u, a, cap, P, rfl, f.mono (fun x hx => .inl (by simp at hx ⊢; rcases hx with rfl | rfl; exact .inr (.inr hR); exact .inr (.inr hD))), Nat.le_refl _, ou, f.keep hk fb, .inr ⟨R, D, hR, hD, hLL, hc, rfl, hg'⟩, (hp.there.mono (fun x hx => ⟨.inl hx.1, hx.2⟩)).keep f (fun x hx h => by rcases h.1 with h1 | h1; exact fn x hx h1; omega), he, hnb' _, hnl' _, hbl⟩
theorem sto_held {q : List UInt8} {c : Int} (h : Sto w L sv c q) :
    Invokes sv "aqueduct/stream.held" #[] w fun e w' => ∃ u, e = .returned u ∧ Fr [] w w' ∧ Ow w' w.heap.size 5 u ((bi q).map (Value.int .u8)) := by
  rcases h with ⟨rfl, rfl, _, rfl⟩ | ⟨R, D, hR, hD, hLL, hc, rfl, hg⟩
  · exact ⟨_, _, _, _, rfl, md_held, Go.Proofs.enters_of Try.func146 (by kernel_rfl) rfl, dir_held.mono fun e w' ⟨he, f⟩ => ⟨_, he, f, Ow.nil _ _ _⟩⟩
  · exact ⟨_, _, _, _, rfl, mb_held _, Go.Proofs.enters_of Try.func152 (by kernel_rfl) rfl, buf_held hg⟩
theorem sto_room {q : List UInt8} {c : Int} (h : Sto w L sv c q) :
    Invokes sv "aqueduct/stream.room" #[] w fun e w' => e = .returned (.int .i64 c) ∧ Fr [] w w' := by
  rcases h with ⟨rfl, rfl, _, rfl⟩ | ⟨R, D, hR, hD, hLL, hc, rfl, hg⟩
  · exact ⟨_, _, _, _, rfl, md_room, Go.Proofs.enters_of Try.func147 (by kernel_rfl) rfl, dir_room⟩
  · exact ⟨_, _, _, _, rfl, mb_room _, Go.Proofs.enters_of Try.func153 (by kernel_rfl) rfl, (buf_room hg).mono fun e w' ⟨he, f⟩ => ⟨by rw [he, Int.toNat_of_nonneg (by omega)], f⟩⟩
theorem sto_again {q : List UInt8} {c : Int} (h : Sto w L sv c q) :
    Invokes sv "aqueduct/stream.again" #[] w fun e w' => ∃ t v L', e = .returned (.iface t v) ∧ Fr [] w w' ∧ (∀ x ∈ L', w.heap.size ≤ x) ∧ Sto w' L' (.iface t v) c q := by
  rcases h with ⟨rfl, rfl, _, rfl⟩ | ⟨R, D, hR, hD, hLL, hc, rfl, hg⟩
  · exact ⟨_, _, _, _, rfl, md_again, Go.Proofs.enters_of Try.func144 (by kernel_rfl) rfl, dir_again.mono fun e w' ⟨he, f⟩ => ⟨_, _, [], he, f, by simp, .inl ⟨rfl, rfl, rfl, rfl⟩⟩⟩
  · exact ⟨_, _, _, _, rfl, mb_again _, Go.Proofs.enters_of Try.func150 (by kernel_rfl) rfl, (buf_again hg).mono fun e w' ⟨R', D', he, f, h1, h2, hg'⟩ => ⟨_, _, [R', D'], he, f, by simp; exact ⟨h1, h2⟩, .inr ⟨R', D', by simp, by simp, by simp, hc, rfl, hg'⟩⟩⟩
end
end Go.Proofs.Ytdoamelhclnphaa
