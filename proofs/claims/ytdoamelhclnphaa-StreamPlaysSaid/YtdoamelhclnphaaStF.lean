/-
  Streams by the memory that is theirs; the law's helpers begins, at, reads, ends.
-/
import Derived.Test.YtdoamelhclnphaaStZ
namespace Go.Proofs.Ytdoamelhclnphaa
open Go.RowKit
set_option maxRecDepth 100000

/-- A stream all of whose memory lies in F. -/
def SF (w : World) (F : Nat → Prop) (b : Nat) (m : SM) : Prop :=
  ∃ N L, St w N L b m ∧ (∀ x, N x → F x) ∧ (∀ x ∈ L, F x) ∧ F b ∧ ∀ x, F x → x < w.heap.size
/-- What a call on it leaves. -/
def SFP (w : World) (F : Nat → Prop) (b : Nat) (m' : SM) (w' : World) : Prop :=
  (∃ S, (∀ x ∈ S, F x ∨ w.heap.size ≤ x) ∧ Fr S w w') ∧ ∃ F' : Nat → Prop, (∀ x, F' x → F x ∨ w.heap.size ≤ x) ∧ SF w' F' b m'
theorem St.ltL {w : World} {N : Nat → Prop} {L : List Nat} {b : Nat} {m : SM} (h : St w N L b m) : ∀ x ∈ L, x < w.heap.size := by
  obtain ⟨_, sv, a, cap, P, h1⟩ := h
  exact h1.s.lt
theorem SF.of {w : World} {N : Nat → Prop} {L : List Nat} {b : Nat} {m : SM} (h : St w N L b m) : SF w (fun x => x = b ∨ x ∈ L ∨ (N x ∧ x < w.heap.size)) b m :=
  ⟨_, L, h.there, fun x hx => .inr (.inr hx), fun x hx => .inr (.inl hx), .inl rfl, fun x hx => by
    rcases hx with rfl | hx | hx
    · exact h.lt
    · exact h.ltL x hx
    · exact hx.2⟩
theorem SF.ok {w : World} {F : Nat → Prop} {b : Nat} {m : SM} (h : SF w F b m) : SOk m := by
  obtain ⟨N, L, h1, _⟩ := h
  exact h1.1
theorem SF.lt {w : World} {F : Nat → Prop} {b : Nat} {m : SM} (h : SF w F b m) : ∀ x, F x → x < w.heap.size := by
  obtain ⟨N, L, _, _, _, _, h1⟩ := h
  exact h1
theorem SF.keep {w w' : World} {F : Nat → Prop} {b : Nat} {m : SM} (h : SF w F b m) {S : List Nat} (hf : Fr S w w') (hS : ∀ x ∈ S, ¬ F x) : SF w' F b m := by
  obtain ⟨N, L, h1, h2, h3, h4, h5⟩ := h
  exact ⟨N, L, h1.keep hf (fun hm => hS b hm h4) (fun x hx hm => hS x hm (h3 x hx)) (fun x hx hn => hS x hx (h2 x hn)), h2, h3, h4, fun x hx => Nat.lt_of_lt_of_le (h5 x hx) hf.size⟩
theorem SF.keep0 {w w' : World} {F : Nat → Prop} {b : Nat} {m : SM} (h : SF w F b m) (hf : Fr [] w w') : SF w' F b m := h.keep hf (by simp)
theorem SF.mono {w : World} {F F' : Nat → Prop} {b : Nat} {m : SM} (h : SF w F b m) (hF : ∀ x, F x → F' x) (hl : ∀ x, F' x → x < w.heap.size) : SF w F' b m := by
  obtain ⟨N, L, h1, h2, h3, h4, h5⟩ := h
  exact ⟨N, L, h1, fun x hx => hF x (h2 x hx), fun x hx => hF x (h3 x hx), hF b h4, hl⟩
/-- From a call's post-condition in blocks. -/
theorem SFP.of {w w1 w' : World} {F : Nat → Prop} {N N' : Nat → Prop} {L L' S : List Nat} {b : Nat} {m' : SM} (hN : ∀ x, N x → F x) (hL : ∀ x ∈ L, F x) (hb : F b) (hF : ∀ x, F x → x < w.heap.size)
    (h1 : w.heap.size ≤ w1.heap.size) (hS : ∀ x ∈ S, x = b ∨ x ∈ L ∨ w.heap.size ≤ x) (hf : Fr S w w') (hN' : ∀ x, N' x → N x ∨ w.heap.size ≤ x) (hL' : ∀ x ∈ L', x ∈ L ∨ w.heap.size ≤ x) (h : St w' N' L' b m') : SFP w F b m' w' := by
  refine ⟨⟨S, fun x hx => ?_, hf⟩, _, fun x hx => ?_, SF.of h⟩
  · rcases hS x hx with rfl | hx | hx
    · exact .inl hb
    · exact .inl (hL x hx)
    · exact .inr hx
  · rcases hx with rfl | hx | hx
    · exact .inl hb
    · rcases hL' x hx with hx | hx
      · exact .inl (hL x hx)
      · exact .inr hx
    · rcases hN' x hx.1 with hx | hx
      · exact .inl (hN x hx)
      · exact .inr hx
theorem SFP.same {w w' : World} {F : Nat → Prop} {b : Nat} {m : SM} (h : SF w F b m) (hf : Fr [] w w') : SFP w F b m w' := ⟨⟨[], by simp, hf⟩, F, fun x hx => .inl hx, h.keep0 hf⟩
theorem SFP.ahead {w0 w w' : World} {F : Nat → Prop} {b : Nat} {m' : SM} (hf : Fr [] w0 w) (h : SFP w F b m' w') : SFP w0 F b m' w' := by
  obtain ⟨⟨S, hS, f⟩, F', hF', h'⟩ := h
  have hs := hf.size
  exact ⟨⟨S, fun x hx => (hS x hx).imp id (fun h => by omega), hf.trans f (by simp) (fun x hx => .inl hx)⟩, F', fun x hx => (hF' x hx).imp id (fun h => by omega), h'⟩
theorem SFP.behind {w w' w2 : World} {F : Nat → Prop} {b : Nat} {m' : SM} (h : SFP w F b m' w') (hf : Fr [] w' w2) : SFP w F b m' w2 := by
  obtain ⟨⟨S, hS, f⟩, F', hF', h'⟩ := h
  exact ⟨⟨S, hS, f.then0 hf⟩, F', hF', h'.keep0 hf⟩

section
variable {w : World} {F : Nat → Prop} {b : Nat} {m : SM}
theorem sf_begin (h : SF w F b m) {N2 : Nat → Prop} {v : Value} {Q : Parts} (hr : Rp w N2 v Q) (h2 : ∀ x, F x → ¬ N2 x) :
    Calls Try.prog 29 #[.pointer (some ⟨b, 0, none⟩), v] w fun e w' => e = .returned (.int .i64 (beginM m Q.flatten).err) ∧
      (∃ S, (∀ x ∈ S, F x) ∧ Fr S w w') ∧ ∃ F' : Nat → Prop, (∀ x, F' x → F x ∨ (N2 x ∧ x < w.heap.size) ∨ w.heap.size ≤ x) ∧ SF w' F' b (beginM m Q.flatten).m := by
  obtain ⟨N, L, h1, hN, hL, hb, hF⟩ := h
  refine (st_begin h1 hr.there (fun hn => h2 b hb hn.1) (fun x hx hn => h2 x (hL x hx) hn.1)).mono ?_
  rintro e w' ⟨he, f, h'⟩
  refine ⟨he, ⟨_, fun x hx => ?_, f⟩, _, fun x hx => ?_, SF.of h'⟩
  · rcases List.mem_cons.1 hx with rfl | hx
    · exact hb
    · exact hL x hx
  · rcases hx with rfl | hx | ⟨hx | hx | hx, _⟩
    · exact .inl hb
    · exact .inl (hL x hx)
    · exact .inl (hN x hx)
    · exact .inr (.inl hx)
    · exact .inr (.inr hx)
theorem sf_progress (h : SF w F b m) :
    Calls Try.prog 31 #[.pointer (some ⟨b, 0, none⟩)] w fun e w' => e = .returned (.tuple #[.int .i64 m.acc, .bool (atEndM m)]) ∧ Fr [] w w' := by
  obtain ⟨N, L, h1, _⟩ := h
  exact st_progress h1
theorem sf_end (h : SF w F b m) :
    Calls Try.prog 33 #[.pointer (some ⟨b, 0, none⟩)] w fun e w' => e = .returned (.tuple #[.int .i64 (endM m).n, .int .i64 (endM m).err]) ∧ SFP w F b (endM m).m w' := by
  obtain ⟨N, L, h1, hN, hL, hb, hF⟩ := h
  refine (st_end h1).mono ?_
  rintro e w' ⟨he, f, h'⟩
  exact ⟨he, SFP.of (w1 := w) hN hL hb hF (Nat.le_refl _) (fun x hx => .inl (by simpa using hx)) f (fun x hx => .inl hx) (fun x hx => .inl hx) h'⟩
theorem sf_cancel (h : SF w F b m) :
    Calls Try.prog 34 #[.pointer (some ⟨b, 0, none⟩)] w fun e w' => e = .returned (.tuple #[.int .i64 (cancelM m).n, .int .i64 (cancelM m).err]) ∧ SFP w F b (cancelM m).m w' := by
  obtain ⟨N, L, h1, hN, hL, hb, hF⟩ := h
  refine (st_cancel h1).mono ?_
  rintro e w' ⟨he, f, h'⟩
  exact ⟨he, SFP.of (w1 := w) hN hL hb hF (Nat.le_refl _) (fun x hx => .inl (by simpa using hx)) f (fun x hx => .inl hx) (fun x hx => .inl hx) h'⟩
theorem sf_closew (h : SF w F b m) (x : Int) :
    Calls Try.prog 36 #[.pointer (some ⟨b, 0, none⟩), .int .i64 x] w fun e w' => e = .returned (.int .i64 (closewM m x).err) ∧ SFP w F b (closewM m x).m w' := by
  obtain ⟨N, L, h1, hN, hL, hb, hF⟩ := h
  refine (st_closew h1 x).mono ?_
  rintro e w' ⟨he, f, N', L', hN', hL', h'⟩
  exact ⟨he, SFP.of (w1 := w) hN hL hb hF (Nat.le_refl _) (fun x hx => by rcases List.mem_cons.1 hx with rfl | hx; exact .inl rfl; exact .inr (.inl hx)) f hN' hL' h'⟩
theorem sf_closer (h : SF w F b m) (x : Int) :
    Calls Try.prog 40 #[.pointer (some ⟨b, 0, none⟩), .int .i64 x] w fun e w' => e = .returned (.int .i64 (closerM m x).err) ∧ SFP w F b (closerM m x).m w' := by
  obtain ⟨N, L, h1, hN, hL, hb, hF⟩ := h
  refine (st_closer h1 x).mono ?_
  rintro e w' ⟨he, f, N', L', hN', hL', h'⟩
  exact ⟨he, SFP.of (w1 := w) hN hL hb hF (Nat.le_refl _) (fun x hx => by rcases List.mem_cons.1 hx with rfl | hx; exact .inl rfl; exact .inr (.inl hx)) f hN' hL' h'⟩
/-- The bytes are the caller's own, and no part of the stream. -/
theorem sf_read (h : SF w F b m) (n : Int) :
    Calls Try.prog 35 #[.pointer (some ⟨b, 0, none⟩), .int .i64 n] w fun e w' => ∃ u, e = .returned (.tuple #[u, .int .i64 (readM m n).err]) ∧ Ow w' w.heap.size 5 u ((bi (readM m n).out).map (Value.int .u8)) ∧
      (∃ S, (∀ x ∈ S, F x) ∧ Fr S w w') ∧ ∃ F' : Nat → Prop, (∀ x, F' x → (F x ∨ w.heap.size ≤ x) ∧ u.ownBlock ≠ some x) ∧ SF w' F' b (readM m n).m := by
  obtain ⟨N, L, h1, hN, hL, hb, hF⟩ := h
  refine (st_read h1 n).mono ?_
  rintro e w' ⟨u, he, f, ou, N', hN', h'⟩
  refine ⟨u, he, ou, ⟨_, fun x hx => ?_, f⟩, _, fun x hx => ?_, SF.of h'⟩
  · rcases List.mem_cons.1 hx with rfl | hx
    · exact hb
    · exact hL x hx
  · rcases hx with rfl | hx | hx
    · exact ⟨.inl hb, fun e => by have := (ou.lt _ e).1; have := hF _ hb; omega⟩
    · exact ⟨.inl (hL x hx), fun e => by have := (ou.lt _ e).1; have := hF _ (hL x hx); omega⟩
    · exact ⟨(hN' x hx.1).1.imp (hN x) id, (hN' x hx.1).2⟩
theorem sf_readP (h : SF w F b m) (n : Int) :
    Calls Try.prog 35 #[.pointer (some ⟨b, 0, none⟩), .int .i64 n] w fun e w' => ∃ u, e = .returned (.tuple #[u, .int .i64 (readM m n).err]) ∧ Ow w' w.heap.size 5 u ((bi (readM m n).out).map (Value.int .u8)) ∧ SFP w F b (readM m n).m w' := by
  refine (sf_read h n).mono ?_
  rintro e w' ⟨u, he, ou, ⟨S, hS, f⟩, F', hF', h'⟩
  exact ⟨u, he, ou, ⟨S, fun x hx => .inl (hS x hx), f⟩, F', fun x hx => (hF' x hx).1, h'⟩
theorem sf_new (c : Int) (w : World) (h0 : 0 ≤ c) (h1 : c ≤ 4096) :
    Calls Try.prog 27 #[.int .i64 c] w fun e w' => ∃ b F, e = .returned (.tuple #[.pointer (some ⟨b, 0, none⟩), .int .i64 0]) ∧ Fr [] w w' ∧ (∀ x, F x → w.heap.size ≤ x) ∧ SF w' F b (newM c) := by
  refine (st_new c w h0 h1).mono ?_
  rintro e w' ⟨b, L, he, f, hb, _, hL, h⟩
  exact ⟨b, _, he, f, fun x hx => by
    rcases hx with rfl | hx | hx
    · exact hb
    · exact (hL x hx).1
    · exact hx.1.elim, SF.of h⟩

theorem parts_single {w : World} {v : Value} {l : List UInt8} {B : Nat} {N : Nat → Prop} (h : w.heap[B]? = some (.cells #[v] 29 (0, 0))) (hv : PartV w N v l) : PartsAt w (fun x => N x ∨ x = B) (some ⟨B, 0, none⟩) [l] := by
  refine ⟨[v], rfl, fun _ => ⟨B, 0, rfl, lt_of_heap h, fun i hi => ?_⟩, fun b o _ e => ?_, fun i p hp => ?_⟩
  · have h0 : i = 0 := by simpa using hi
    subst h0
    exact (cell_of h).trans (by simp)
  · injection e with e; injection e with e1; exact .inr e1.symm
  · cases i with
    | zero =>
      simp at hp
      subst hp
      exact ⟨v, rfl, hv.mono fun _ => .inl⟩
    | succ i => simp at hp
theorem own_single (l : List UInt8) : (own [l]).length ≤ 1 ∧ (own [l]).flatten = l := ⟨Nat.le_trans (List.length_filter_le _ _) (by simp), by rw [own_flat]; simp⟩
set_option maxHeartbeats 1000000 in
theorem begins14 (h : SF w F b m) {l : List UInt8} (hl : l.length ≤ 65536) (want : Int) (hw : (beginM m l).err = want) :
    Calls Try.prog 70 #[.pointer (some ⟨b, 0, none⟩), .string ⟨l.toArray⟩, .int .i64 want] w fun e w' => e = .returned (.bool true) ∧ SFP w F b (beginM m l).m w' := by
  have hcv := Lib.run_convert_string_bytes (P := Try.prog) w 9 29 5 ⟨l.toArray⟩ Try.underlying9 Try.underlying29 Try.underlying5
  have f1 := Fr.bytesWorld w 5 ⟨l.toArray⟩
  have s1 := Sl.bytesWorld w 5 l
  have hg : l.length ≤ grownCap w l.length 0 5 := grownCap_ge _ _ _ _
  have hgm : grownCap w l.length 0 5 ≤ maxLen := grownCap_le_maxLen _ _ _ _ (by unfold maxLen; omega)
  rw [show (⟨l.toArray⟩ : ByteArray).size = l.length from by simp [ByteArray.size]] at hcv
  have hB : w.heap.size < (Lib.bytesWorld w 5 ⟨l.toArray⟩).heap.size := by rw [Lib.bytesWorld_size]; omega
  generalize Lib.bytesWorld w 5 ⟨l.toArray⟩ = W1 at hcv f1 s1 hB
  generalize grownCap w l.length 0 5 = G at hcv hg hgm
  have pv : PartV W1 (fun x => w.heap.size ≤ x) (.slice (some ⟨w.heap.size, 0, none⟩) l.length G) l := ⟨_, _, rfl, hg, hgm, s1, fun b o _ e => by injection e with e; injection e with e1; omega⟩
  obtain ⟨W2, hW2, f2, q2⟩ : ∃ W, W1.alloc (.cells #[.slice (some ⟨w.heap.size, 0, none⟩) l.length G] 29) = W ∧ Fr [] W1 W ∧ W.heap[W1.heap.size]? = some (.cells #[.slice (some ⟨w.heap.size, 0, none⟩) l.length G] 29 (0, 0)) := ⟨_, rfl, (Fr.refl _ _).alloc _, newA rfl⟩
  have HN := Lib.hid (rope_new (cap := 1) (len := 1) (parts_single q2 (pv.keep f2 (by simp))) rfl (by unfold maxLen; omega))
  have g2 := f1.trans f2 (U := []) (by simp) (by simp)
  have hs2 := g2.size
  have HH := Lib.hid h
  have HL := Lib.hid hl
  have HW := Lib.hid hw
  clear h pv q2 s1 hl hw f1 f2
  go_enter Try.func70, Try.ntmps70
  go_wp2_with fail
  refine HN.out.mono ?_
  rintro e w3 ⟨f3, he⟩
  rw [if_neg (by have := (own_single l).1; omega), if_neg (by have := HL.out; simp [tot]; omega)] at he
  obtain ⟨v, rfl, hr⟩ := he
  have hfl := (own_single l).2
  generalize own [l] = Q at *
  obtain ⟨ra, rc, rfl, _⟩ := id hr
  obtain ⟨w4, hw4, f4, q4⟩ : ∃ W, w3.alloc (.cells #[.slice ra Q.length rc, .int .i64 (tot Q)] 57) = W ∧ Fr [] w3 W ∧ W.heap[w3.heap.size]? = some (.cells #[.slice ra Q.length rc, .int .i64 (tot Q)] 57 (0, 0)) := ⟨_, rfl, (Fr.refl _ _).alloc _, newA rfl⟩
  have g4 := (g2.then0 f3).then0 f4
  have x0 : w4.cell? ⟨w3.heap.size, 0, none⟩ = some (.slice ra Q.length rc) := cell_of q4
  have x1 : w4.cell? ⟨w3.heap.size, 1, none⟩ = some (.int .i64 (tot Q)) := cell_of q4
  have HB := Lib.hid (sf_begin (HH.out.keep0 g4) (hr.keep f4 (by simp)) (fun x hx hn => by have := HH.out.lt x hx; omega))
  rw [hfl, HW.out] at HB
  have HG := Lib.hid g4
  clear HN hr f3 f4 q4 g4 hfl g2
  go_wp2_with fail
  refine HB.out.mono ?_
  rintro e w5 ⟨rfl, ⟨S, hS, f5⟩, F', hF', h5⟩
  clear HB
  have hww : (want == want) = true := beq_self_eq_true want
  go_wp2_with fail
  go_ret
  refine ⟨rfl, ⟨S, fun x hx => .inl (hS x hx), HG.out.trans f5 (by simp) (fun x hx => .inl hx)⟩, F', fun x hx => ?_, h5⟩
  have hs4 := HG.out.size
  rcases hF' x hx with hx | hx | hx
  · exact .inl hx
  · exact .inr (by omega)
  · exact .inr (by omega)
theorem at14 (h : SF w F b m) (n : Int) (d : Bool) (hn : m.acc = n) (hd : atEndM m = d) :
    Calls Try.prog 71 #[.pointer (some ⟨b, 0, none⟩), .int .i64 n, .bool d] w fun e w' => e = .returned (.bool true) ∧ SFP w F b m w' := by
  subst hn hd
  have HP := Lib.hid (sf_progress h)
  have HH := Lib.hid h
  have h1 : (m.acc == m.acc) = true := beq_self_eq_true _
  have h2 : (atEndM m == atEndM m) = true := beq_self_eq_true _
  clear h
  generalize atEndM m = d at *
  go_enter Try.func71, Try.ntmps71
  go_wp2_with fail
  refine HP.out.mono ?_
  rintro e w1 ⟨rfl, f1⟩
  go_wp2_with fail
  go_ret
  exact ⟨rfl, SFP.same HH.out f1⟩
theorem reads14 (h : SF w F b m) (most : Int) (l : List UInt8) (no : Int) (hq : (readM m most).out = l) (he : (readM m most).err = no) :
    Calls Try.prog 72 #[.pointer (some ⟨b, 0, none⟩), .int .i64 most, .string (st l), .int .i64 no] w fun e w' => e = .returned (.bool true) ∧ SFP w F b (readM m most).m w' := by
  have HR := Lib.hid (sf_readP h most)
  rw [hq, he] at HR
  have hnn : (no == no) = true := beq_self_eq_true no
  clear h hq he
  go_enter Try.func72, Try.ntmps72
  go_wp2_with fail
  refine HR.out.mono ?_
  rintro e w2 ⟨u, rfl, ou, hp⟩
  clear HR
  obtain ⟨ga, gc, rfl, _, _, hs, _⟩ := ou.formB
  have hcv := fun c => conv_st (cap := c) hs rfl
  have HP := Lib.hid hp
  clear hp ou hs
  go_wp2_with fail
  go_ret
  exact ⟨rfl, HP.out⟩
theorem ends14 (h : SF w F b m) (n no : Int) (hq : (endM m).n = n) (he : (endM m).err = no) :
    Calls Try.prog 73 #[.pointer (some ⟨b, 0, none⟩), .int .i64 n, .int .i64 no] w fun e w' => e = .returned (.bool true) ∧ SFP w F b (endM m).m w' := by
  have HR := Lib.hid (sf_end h)
  rw [hq, he] at HR
  have hnn : (no == no) = true := beq_self_eq_true no
  have hn1 : (n == n) = true := beq_self_eq_true n
  clear h hq he
  go_enter Try.func73, Try.ntmps73
  go_wp2_with fail
  refine HR.out.mono ?_
  rintro e w2 ⟨rfl, hp⟩
  clear HR
  have HP := Lib.hid hp
  clear hp
  go_wp2_with fail
  go_ret
  exact ⟨rfl, HP.out⟩
/-- Two streams of the call's own. -/
def Two (w0 w : World) (b : Nat) (m : SM) (b2 : Nat) (m2 : SM) : Prop :=
  Fr [] w0 w ∧ ∃ F F2 : Nat → Prop, SF w F b m ∧ SF w F2 b2 m2 ∧ (∀ x, F x → ¬ F2 x) ∧ ∀ x, F x ∨ F2 x → w0.heap.size ≤ x
theorem Two.swap {w0 w : World} {b b2 : Nat} {m m2 : SM} (h : Two w0 w b m b2 m2) : Two w0 w b2 m2 b m := by
  obtain ⟨f, F, F2, h1, h2, h3, h4⟩ := h
  exact ⟨f, F2, F, h2, h1, fun x hx hy => h3 x hy hx, fun x hx => h4 x hx.symm⟩
theorem Two.fst {w0 w w' : World} {b b2 : Nat} {m2 m' : SM} {F F2 : Nat → Prop} (f : Fr [] w0 w) (h2 : SF w F2 b2 m2) (hd : ∀ x, F x → ¬ F2 x) (hn : ∀ x, F x ∨ F2 x → w0.heap.size ≤ x) (h : SFP w F b m' w') : Two w0 w' b m' b2 m2 := by
  obtain ⟨⟨S, hS, fs⟩, F', hF', h'⟩ := h
  have hz := f.size
  refine ⟨f.trans fs (by simp) (fun x hx => .inr ?_), F', F2, h', h2.keep fs (fun x hx hy => ?_), fun x hx hy => ?_, fun x hx => ?_⟩
  · rcases hS x hx with h1 | h1
    · exact hn x (.inl h1)
    · omega
  · rcases hS x hx with h1 | h1
    · exact hd x h1 hy
    · have := h2.lt x hy
      omega
  · rcases hF' x hx with h1 | h1
    · exact hd x h1 hy
    · have := h2.lt x hy
      omega
  · rcases hx with hx | hx
    · rcases hF' x hx with h1 | h1
      · exact hn x (.inl h1)
      · omega
    · exact hn x (.inr hx)
end
end Go.Proofs.Ytdoamelhclnphaa
