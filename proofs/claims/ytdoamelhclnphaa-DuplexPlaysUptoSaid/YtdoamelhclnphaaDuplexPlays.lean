/-
  Law 15: DuplexPlays: the results of any calls of a new connection, and its state after each of them.
-/
import Derived.Test.YtdoamelhclnphaaGs
import Derived.Test.YtdoamelhclnphaaDxInv15
import Derived.Test.YtdoamelhclnphaaRefG15
import Derived.Test.YtdoamelhclnphaaKnown15
import Derived.Deep.DeepCutAuto
import Derived.Deep.CutBlock
namespace Go.Proofs.Ytdoamelhclnphaa
open Go.RowKit
set_option maxRecDepth 100000

set_option maxHeartbeats 16000000 in
theorem duplexPlays_main {p0 p1 : Int} {a : Option Addr} {len cap : Nat} {A : List A15} (w : World) (hc0 : 0 ≤ p0 ∧ p0 ≤ 4096) (hc1 : 0 ≤ p1 ∧ p1 ≤ 4096) (hA : Acts15 w w.heap.size a len cap A) (hs : fewB15 A = true) :
    Calls Try.prog 11 #[.int .i64 p0, .int .i64 p1, .slice a len cap] w fun e w' => e = .returned (.bool true) ∧ Fr [] w w' := by
  have hle := hA.len_eq
  subst hle
  have HFW := Lib.hid (hs ▸ few15 hA)
  obtain ⟨hl20, hok, hsum⟩ := fewB15_iff hs
  have HOK : Hid (∀ x ∈ A, x.ps.length ≤ 100 ∧ tot x.ps ≤ 3000) := Lib.hid (fun x hx => hok x hx)
  have hl20' : (A.length : Int) ≤ 20 := by omega
  have HNEW := Lib.hid fun w1 => dx_new w1 hc0 hc1
  have HRN := Lib.hid fun w1 => r15_new w1 hc0 hc1
  have HA0 := Lib.hid hA
  generalize hm0 : (⟨newM p0, newM p1, false, false⟩ : DM) = s0 at *
  clear hs hok hsum hl20 hA hm0 hc0 hc1
  go_enter Try.func11, Try.ntmps11
  go_wp2_with fail
  refine HFW.out.mono ?_
  rintro e w' ⟨rfl, g0⟩
  have hz0 := g0.size
  have ha0 := Lib.hid (HA0.out.keep g0 (Nat.le_refl _) (by simp))
  have HG0 := Lib.hid g0
  clear g0
  go_wp2_with fail
  refine (HNEW.out _).mono ?_
  rintro e w1 ⟨d, F, rfl, g1, hF, h1⟩
  have ha1 := Lib.hid (ha0.out.keep g1 hz0 (by simp))
  have HFS := Lib.hid (And.intro hF h1)
  clear HFW HNEW h1 hF HA0 ha0
  have hz1 := g1.size
  have HG1 := Lib.hid (HG0.out.then0 g1)
  clear g1
  go_wp2_with fail
  refine (HRN.out _).mono ?_
  rintro e w2 ⟨v', rfl, f2, hv⟩
  obtain ⟨u0, u1, u2, u3, rfl, e0, e1, e2, e3⟩ := hv
  obtain ⟨a0, k0, rfl, _⟩ := id e0
  obtain ⟨a1, k1, rfl, _⟩ := id e1
  obtain ⟨a2, k2, rfl, _⟩ := id e2
  obtain ⟨a3, k3, rfl, _⟩ := id e3
  obtain ⟨wz, hwz, fz, qz⟩ : ∃ W, w2.alloc (.cells #[.int .i64 0, .slice none 0 0, .bool false, .slice none 0 0, .int .i64 0, .int .i64 0, .int .i64 0, .int .i64 0, .slice none 0 0, .bool false, .slice none 0 0, .int .i64 0, .int .i64 0, .int .i64 0, .bool false, .bool false] 44) = W ∧ Fr [] w2 W ∧ W.heap[w2.heap.size]? = some (.cells #[.int .i64 0, .slice none 0 0, .bool false, .slice none 0 0, .int .i64 0, .int .i64 0, .int .i64 0, .int .i64 0, .slice none 0 0, .bool false, .slice none 0 0, .int .i64 0, .int .i64 0, .int .i64 0, .bool false, .bool false] 44 (0, 0)) := ⟨_, rfl, (Fr.refl _ _).alloc _, newA rfl⟩
  have HQZ := Lib.hid qz
  have hzz := lt_of_heap qz
  clear qz
  have HQR := Lib.hid (And.intro (And.intro e0 e1) (And.intro e2 e3))
  have hz2 := f2.size
  have HF2 := Lib.hid f2
  clear e0 e1 e2 e3 f2 HRN
  go_wp2_with (refine wpl_store rfl 44 _ _ rfl w2.heap.size #[.int .i64 s0.m0.c, .slice a0 s0.m0.q.length k0, .bool s0.m0.busy, .slice a1 s0.m0.rest.length k1, .int .i64 s0.m0.acc, .int .i64 s0.m0.w, .int .i64 s0.m0.r, .int .i64 s0.m1.c, .slice a2 s0.m1.q.length k2, .bool s0.m1.busy, .slice a3 s0.m1.rest.length k3, .int .i64 s0.m1.acc, .int .i64 s0.m1.w, .int .i64 s0.m1.r, .bool s0.x0, .bool s0.x1] (by rfl) (by rfl) _ _ HQZ.out (by kernel_rfl) rfl (by simp [Value.oneCell']) ?_)
  intro w3 f3 q3
  have f23 : Fr [] w2 w3 := fz.trans f3 (by simp) (fun x hx => .inr (by simp at hx; omega))
  obtain ⟨B, hB⟩ : ∃ B, B = w2.heap.size := ⟨_, rfl⟩
  have Q4 : Hid (w3.heap[B]? = some (.cells #[.int .i64 s0.m0.c, .slice a0 s0.m0.q.length k0, .bool s0.m0.busy, .slice a1 s0.m0.rest.length k1, .int .i64 s0.m0.acc, .int .i64 s0.m0.w, .int .i64 s0.m0.r, .int .i64 s0.m1.c, .slice a2 s0.m1.q.length k2, .bool s0.m1.busy, .slice a3 s0.m1.rest.length k3, .int .i64 s0.m1.acc, .int .i64 s0.m1.w, .int .i64 s0.m1.r, .bool s0.x0, .bool s0.x1] 44 (0, 0))) := Lib.hid (by rw [hB]; exact q3)
  have T4 : Hid (DI w w3 [B] d s0 (.agg #[.int .i64 s0.m0.c, .slice a0 s0.m0.q.length k0, .bool s0.m0.busy, .slice a1 s0.m0.rest.length k1, .int .i64 s0.m0.acc, .int .i64 s0.m0.w, .int .i64 s0.m0.r, .int .i64 s0.m1.c, .slice a2 s0.m1.q.length k2, .bool s0.m1.busy, .slice a3 s0.m1.rest.length k3, .int .i64 s0.m1.acc, .int .i64 s0.m1.w, .int .i64 s0.m1.r, .bool s0.x0, .bool s0.x1])) := Lib.hid (by
    have h := (HFS.out.2.keep0 HF2.out).keep0 f23
    have hl := (HFS.out.2).lt
    exact ⟨F, fun _ => False, h, ⟨_, _, _, _, rfl, HQR.out.1.1.keep f23 (by simp), HQR.out.1.2.keep f23 (by simp), HQR.out.2.1.keep f23 (by simp), HQR.out.2.2.keep f23 (by simp)⟩, fun _ _ hn => hn, fun x hx => ⟨Nat.le_trans hz0 (HFS.out.1 x hx), by have := hl x hx; simp; omega⟩, fun x hx => hx.elim⟩)
  have HBW : Hid (w.heap.size ≤ B) := Lib.hid (by omega)
  have G4 := Lib.hid ((HG1.out.then0 HF2.out).then0 f23)
  have A4 := Lib.hid (ha1.out.keep (HF2.out.then0 f23) HG1.out.size (by simp))
  clear q3 f3 f23 fz HQZ HQR HF2 HFS HG1 HG0 ha1 hzz hz1 hz2 hz0
  rw [← hB]
  clear hB
  go_wp2_with fail
  go_loopw [7, 11] (fun v5 i wr => ∃ (k : Nat) (s : DM) (d : Nat) (a0 : Option Addr) (k0 : Nat) (a1 : Option Addr) (k1 : Nat) (a2 : Option Addr) (k2 : Nat) (a3 : Option Addr) (k3 : Nat), k ≤ A.length ∧ i = .int .i64 k ∧ v5 = .pointer (some ⟨d, 0, none⟩) ∧ Hid (wr.heap[B]? = some (.cells #[.int .i64 s.m0.c, .slice a0 s.m0.q.length k0, .bool s.m0.busy, .slice a1 s.m0.rest.length k1, .int .i64 s.m0.acc, .int .i64 s.m0.w, .int .i64 s.m0.r, .int .i64 s.m1.c, .slice a2 s.m1.q.length k2, .bool s.m1.busy, .slice a3 s.m1.rest.length k3, .int .i64 s.m1.acc, .int .i64 s.m1.w, .int .i64 s.m1.r, .bool s.x0, .bool s.x1] 44 (0, 0))) ∧ Hid (DI w wr [B] d s (.agg #[.int .i64 s.m0.c, .slice a0 s.m0.q.length k0, .bool s.m0.busy, .slice a1 s.m0.rest.length k1, .int .i64 s.m0.acc, .int .i64 s.m0.w, .int .i64 s.m0.r, .int .i64 s.m1.c, .slice a2 s.m1.q.length k2, .bool s.m1.busy, .slice a3 s.m1.rest.length k3, .int .i64 s.m1.acc, .int .i64 s.m1.w, .int .i64 s.m1.r, .bool s.x0, .bool s.x1])) ∧ Hid (Fr [] w wr) ∧ Hid (Acts15 wr w.heap.size a A.length cap A)) (fun _ i _ => A.length - (intOf i).toNat)
  case atStart => exact ⟨0, s0, d, a0, k0, a1, k1, a2, k2, a3, k3, by omega, rfl, rfl, Q4, T4, G4, A4⟩
  case round =>
    clear Q4 T4 G4 A4
    obtain ⟨k, s, d, a0, k0, a1, k1, a2, k2, a3, k3, hk, rfl, rfl, QR, HT, GR, AR⟩ := hrel
    rename World => wr
    by_cases hlt : (k : Int) < A.length
    · as_aux_lemma =>
        have hkA : k < A.length := by omega
        obtain ⟨ab, ao, pa, pl, pc, rfl, habM, hab, c0, c1, c2, c3, hp⟩ := AR.out.at_ k hkA
        have hok := HOK.out A[k] (List.getElem_mem hkA)
        generalize A[k] = ak at c0 c1 c2 c3 hp hok
        obtain ⟨what, en, ps, n⟩ := ak
        dsimp only at c0 c1 c2 c3 hp hok
        have hpl := hp.len_eq
        subst hpl
        have hgs := GR.out.size
        have hBlt := lt_of_heap QR.out
        have HBL := HBW.out
        obtain ⟨s2, hm2⟩ : ∃ s2, stepD what en ps n s = s2 := ⟨_, rfl⟩
        have HSTEP := Lib.hid fun (W : World) (f : Fr [] wr W) => hm2 ▸ (HT.out.keep0 f).step (Nat.le_trans hgs f.size) (by have := f.size; simp; omega) (hp.keep f (by simp)) hok.1 hok.2 (what := what) (n := n) (en := en)
        have HSTEPB := Lib.hid fun (W : World) (f : Fr [] wr W) (hw : wr.heap.size < W.heap.size) => hm2 ▸ (HT.out.out f [wr.heap.size] (by simp)).step (Nat.le_trans hgs f.size) (by simp; omega) (hp.keep f (by simp)) hok.1 hok.2 (what := what) (n := n) (en := en)
        have HEW := Lib.hid (Go.Proofs.enters_of Try.func63 (by kernel_rfl) rfl)
        have HFA := Lib.hid fun (w' : World) (hf : ∃ S, Fr S wr w' ∧ ∀ x ∈ S, w.heap.size ≤ x ∧ x ≠ B) => (show w'.cell? ⟨B, 0, none⟩ = some (.int .i64 s.m0.c) ∧ w'.cell? ⟨B, 1, none⟩ = some (.slice a0 s.m0.q.length k0) ∧ w'.cell? ⟨B, 2, none⟩ = some (.bool s.m0.busy) ∧ w'.cell? ⟨B, 3, none⟩ = some (.slice a1 s.m0.rest.length k1) ∧ w'.cell? ⟨B, 4, none⟩ = some (.int .i64 s.m0.acc) ∧ w'.cell? ⟨B, 5, none⟩ = some (.int .i64 s.m0.w) ∧ w'.cell? ⟨B, 6, none⟩ = some (.int .i64 s.m0.r) ∧ w'.cell? ⟨B, 7, none⟩ = some (.int .i64 s.m1.c) ∧ w'.cell? ⟨B, 8, none⟩ = some (.slice a2 s.m1.q.length k2) ∧ w'.cell? ⟨B, 9, none⟩ = some (.bool s.m1.busy) ∧ w'.cell? ⟨B, 10, none⟩ = some (.slice a3 s.m1.rest.length k3) ∧ w'.cell? ⟨B, 11, none⟩ = some (.int .i64 s.m1.acc) ∧ w'.cell? ⟨B, 12, none⟩ = some (.int .i64 s.m1.w) ∧ w'.cell? ⟨B, 13, none⟩ = some (.int .i64 s.m1.r) ∧ w'.cell? ⟨B, 14, none⟩ = some (.bool s.x0) ∧ w'.cell? ⟨B, 15, none⟩ = some (.bool s.x1) ∧ w'.cell? ⟨ab, ao + k * 4, none⟩ = some (.int .i64 what) ∧ w'.cell? ⟨ab, ao + k * 4 + 1, none⟩ = some (.int .i64 en) ∧ w'.cell? ⟨ab, ao + k * 4 + 2, none⟩ = some (.slice pa ps.length pc) ∧ w'.cell? ⟨ab, ao + k * 4 + 3, none⟩ = some (.int .i64 n) from by
          obtain ⟨S, f, hS⟩ := hf
          have q' := f.keep QR.out (fun hm => (hS _ hm).2 rfl)
          have hk : ∀ j, w'.cell? ⟨ab, j, none⟩ = wr.cell? ⟨ab, j, none⟩ := fun j => World.cell?_of_block (w := wr) (f.block ab hab (fun hm => by have := (hS _ hm).1; omega))
          exact ⟨cell_of q', cell_of q', cell_of q', cell_of q', cell_of q', cell_of q', cell_of q', cell_of q', cell_of q', cell_of q', cell_of q', cell_of q', cell_of q', cell_of q', cell_of q', cell_of q', (hk _).trans c0, (hk _).trans c1, (hk _).trans c2, (hk _).trans c3⟩)
        have habB : ab ≠ B := by omega
        clear hp hok hm2
        go_upto_region 12 with fail
        go_cut [12, 13, 14] (fun v11 v12 v13 wx => ∃ (d2 B2 : Nat) (l0 : Option Addr) (j0 : Nat) (l1 : Option Addr) (j1 : Nat) (l2 : Option Addr) (j2 : Nat) (l3 : Option Addr) (j3 : Nat), v11 = .pointer (some ⟨d2, 0, none⟩) ∧ v12 = .pointer (some ⟨B2, 0, none⟩) ∧ v13 = .bool true ∧ Hid (wx.heap[B2]? = some (.cells #[.int .i64 s2.m0.c, .slice l0 s2.m0.q.length j0, .bool s2.m0.busy, .slice l1 s2.m0.rest.length j1, .int .i64 s2.m0.acc, .int .i64 s2.m0.w, .int .i64 s2.m0.r, .int .i64 s2.m1.c, .slice l2 s2.m1.q.length j2, .bool s2.m1.busy, .slice l3 s2.m1.rest.length j3, .int .i64 s2.m1.acc, .int .i64 s2.m1.w, .int .i64 s2.m1.r, .bool s2.x0, .bool s2.x1] 44 (0, 0))) ∧ Hid (DI w wx [B2, B] d2 s2 (.agg #[.int .i64 s2.m0.c, .slice l0 s2.m0.q.length j0, .bool s2.m0.busy, .slice l1 s2.m0.rest.length j1, .int .i64 s2.m0.acc, .int .i64 s2.m0.w, .int .i64 s2.m0.r, .int .i64 s2.m1.c, .slice l2 s2.m1.q.length j2, .bool s2.m1.busy, .slice l3 s2.m1.rest.length j3, .int .i64 s2.m1.acc, .int .i64 s2.m1.w, .int .i64 s2.m1.r, .bool s2.x0, .bool s2.x1])) ∧ Hid (∃ S, Fr S wr wx ∧ ∀ x ∈ S, w.heap.size ≤ x ∧ x ≠ B) ∧ Hid (B2 ≠ B ∧ w.heap.size ≤ B2))
        case first =>
          clear c0 c1 c2 c3
          have f0 : ∃ S, Fr S wr wr.drew ∧ ∀ x ∈ S, w.heap.size ≤ x ∧ x ≠ B := ⟨[], (Fr.refl _ _).drew, by simp⟩
          have fd : Fr [] wr wr.drew := (Fr.refl _ _).drew
          refine wp_region_tree (.take 0 (.take 1 (.take 2 (.take 3 (.take 4 (.take 5 (.two 6 11 (.take 7 (.take 8 (.take 9 (.take 10 (.one 11 (.take 12 (.one 13 (.take 14 .nil)))))))) (.one 6 (.take 7 (.take 8 (.take 9 (.take 10 (.take 12 (.one 13 (.take 14 .nil))))))))))))))) (fun w' => ∃ S, Fr S wr w' ∧ ∀ x ∈ S, w.heap.size ≤ x ∧ x ≠ B) (by kernel_rfl) (by kernel_rfl) f0 ?_
          intro OPS HOPS
          have hops := HOPS.out
          try simp only [List.append_eq, List.cons_append, List.nil_append] at hops
          replace HOPS := Lib.hid hops
          clear hops
          refine walkT_take (o := _) (v := ?_) (by rw [HOPS.out]; simp only [gA, gB, gC]; exact rfl) (Or.inl ⟨rfl, ?_⟩) ?_
          rotate_left
          · (intro w hSw; have hSx := HFA.out _ hSw; (try dsimp only at hSx); clear hSw; go_simp) <;> (with_reducible rfl)
          simp only [Act.put, gD, gE, gF]
          refine walkT_take (o := _) (v := ?_) (by rw [HOPS.out]; simp only [gA, gB, gC]; exact rfl) (Or.inl ⟨rfl, ?_⟩) ?_
          rotate_left
          · (intro w hSw; have hSx := HFA.out _ hSw; (try dsimp only at hSx); clear hSw; go_simp) <;> (with_reducible rfl)
          simp only [Act.put, gD, gE, gF]
          refine walkT_take (o := _) (v := ?_) (by rw [HOPS.out]; simp only [gA, gB, gC]; exact rfl) (Or.inl ⟨rfl, ?_⟩) ?_
          rotate_left
          · (intro w hSw; have hSx := HFA.out _ hSw; (try dsimp only at hSx); clear hSw; go_simp) <;> (with_reducible rfl)
          simp only [Act.put, gD, gE, gF]
          refine walkT_take (o := _) (v := ?_) (by rw [HOPS.out]; simp only [gA, gB, gC]; exact rfl) (Or.inl ⟨rfl, ?_⟩) ?_
          rotate_left
          · (intro w hSw; have hSx := HFA.out _ hSw; (try dsimp only at hSx); clear hSw; go_simp) <;> (with_reducible rfl)
          simp only [Act.put, gD, gE, gF]
          refine walkT_take (o := _) (v := ?_) (by rw [HOPS.out]; simp only [gA, gB, gC]; exact rfl) (Or.inl ⟨rfl, ?_⟩) ?_
          rotate_left
          · (intro w hSw; have hSx := HFA.out _ hSw; (try dsimp only at hSx); clear hSw; go_simp) <;> (with_reducible rfl)
          simp only [Act.put, gD, gE, gF]
          refine walkT_take (o := _) (v := ?_) (by rw [HOPS.out]; simp only [gA, gB, gC]; exact rfl) (Or.inl ⟨rfl, ?_⟩) ?_
          rotate_left
          · (intro w hSw; have hSx := HFA.out _ hSw; (try dsimp only at hSx); clear hSw; go_simp) <;> (with_reducible rfl)
          simp only [Act.put, gD, gE, gF]
          refine walkT_two ?_ ?_
          · skip
            refine walkT_call (o := _) (by rw [HOPS.out]; simp only [gA, gB, gC]; exact rfl) (fun K HK => ?_)
            refine step_call rfl 63 #[(.tmp 51), (.tmp 52), (.tmp 56)] #[22, 44, 94] rfl HEW.out #[.pointer (some ⟨d, 0, none⟩), .agg #[.int .i64 s.m0.c, .slice a0 s.m0.q.length k0, .bool s.m0.busy, .slice a1 s.m0.rest.length k1, .int .i64 s.m0.acc, .int .i64 s.m0.w, .int .i64 s.m0.r, .int .i64 s.m1.c, .slice a2 s.m1.q.length k2, .bool s.m1.busy, .slice a3 s.m1.rest.length k3, .int .i64 s.m1.acc, .int .i64 s.m1.w, .int .i64 s.m1.r, .bool s.x0, .bool s.x1], .agg #[.int .i64 what, .int .i64 en, .slice pa ps.length pc, .int .i64 n]] (by simp [Act.eval]) (HSTEP.out _ fd) ?_
            rintro e u6 ⟨d2, v2, rfl, h5, S5, f5', hS5⟩
            obtain ⟨l0, j0, l1, j1, l2, j2, l3, j3, rfl⟩ := h5.form
            have h5B : ∀ x ∈ S5, w.heap.size ≤ x ∧ x ≠ B := fun x hx => ⟨(hS5 x hx).1, fun e => (hS5 x hx).2 (by simp [e])⟩
            have f5 : ∃ S, Fr S wr u6 ∧ ∀ x ∈ S, w.heap.size ≤ x ∧ x ≠ B := ⟨S5, (fd).trans f5' (U := S5) (by simp) (fun x hx => .inl hx), h5B⟩
            have hz5 := f5'.size
            have hzc := (fd).size
            refine ⟨_, rfl, ?_⟩
            refine HK.out (fun w' => ∃ S, Fr S wr w' ∧ ∀ x ∈ S, w.heap.size ≤ x ∧ x ≠ B) _ _ (fun _ h => h) (f5) ?_
            clear HK K
            simp only [Act.put, gD, gE, gF]
            refine walkT_take (o := _) (v := ?_) (by rw [HOPS.out]; simp only [gA, gB, gC]; exact rfl) (Or.inl ⟨rfl, ?_⟩) ?_
            rotate_left
            · (intro w hSw; have hSx := HFA.out _ hSw; (try dsimp only at hSx); clear hSw; go_simp) <;> (with_reducible rfl)
            simp only [Act.put, gD, gE, gF]
            refine walkT_take (o := _) (v := ?_) (by rw [HOPS.out]; simp only [gA, gB, gC]; exact rfl) (Or.inl ⟨rfl, ?_⟩) ?_
            rotate_left
            · (intro w hSw; have hSx := HFA.out _ hSw; (try dsimp only at hSx); clear hSw; go_simp) <;> (with_reducible rfl)
            simp only [Act.put, gD, gE, gF]
            refine walkT_take (o := _) (v := ?_) (by rw [HOPS.out]; simp only [gA, gB, gC]; exact rfl) (Or.inl ⟨rfl, ?_⟩) ?_
            rotate_left
            · (intro w hSw; have hSx := HFA.out _ hSw; (try dsimp only at hSx); clear hSw; go_simp) <;> (with_reducible rfl)
            simp only [Act.put, gD, gE, gF]
            refine walkT_take (o := _) (v := ?_) (by rw [HOPS.out]; simp only [gA, gB, gC]; exact rfl) (Or.inl ⟨rfl, ?_⟩) ?_
            rotate_left
            · (intro w hSw; have hSx := HFA.out _ hSw; (try dsimp only at hSx); clear hSw; go_simp) <;> (with_reducible rfl)
            simp only [Act.put, gD, gE, gF]
            refine walkT_call (o := _) (by rw [HOPS.out]; simp only [gA, gB, gC]; exact rfl) (fun K HK => ?_)
            go_simp
            obtain ⟨u7, hu7, fa, qa7⟩ : ∃ W, (u6.alloc (.cells #[.int .i64 0, .slice none 0 0, .bool false, .slice none 0 0, .int .i64 0, .int .i64 0, .int .i64 0, .int .i64 0, .slice none 0 0, .bool false, .slice none 0 0, .int .i64 0, .int .i64 0, .int .i64 0, .bool false, .bool false] 44)) = W ∧ Fr [] u6 W ∧ W.heap[u6.heap.size]? = some (.cells #[.int .i64 0, .slice none 0 0, .bool false, .slice none 0 0, .int .i64 0, .int .i64 0, .int .i64 0, .int .i64 0, .slice none 0 0, .bool false, .slice none 0 0, .int .i64 0, .int .i64 0, .int .i64 0, .bool false, .bool false] 44 (0, 0)) := ⟨_, rfl, (Fr.refl _ _).alloc _, newA rfl⟩
            try rw [hu7]
            have HZN := Lib.hid qa7
            have hzz := lt_of_heap qa7
            have f6 : ∃ S, Fr S wr u7 ∧ ∀ x ∈ S, w.heap.size ≤ x ∧ x ≠ B := ⟨S5, ((fd).trans f5' (U := S5) (by simp) (fun x hx => .inl hx)).then0 fa, h5B⟩
            have h6 := h5.out fa [u6.heap.size] (by simp)
            refine HK.out (fun w' => ∃ S, Fr S wr w' ∧ ∀ x ∈ S, w.heap.size ≤ x ∧ x ≠ B) _ _ (fun _ h => h) f6 ?_
            clear HK K
            try simp only [Act.put, gD, gE, gF]
            refine walkT_take (o := _) (v := ?_) (by rw [HOPS.out]; simp only [gA, gB, gC]; exact rfl) (Or.inl ⟨rfl, ?_⟩) ?_
            rotate_left
            · (intro w hSw; have hSx := HFA.out _ hSw; (try dsimp only at hSx); clear hSw; go_simp) <;> (with_reducible rfl)
            simp only [Act.put, gD, gE, gF]
            refine walkT_call (o := _) (by rw [HOPS.out]; simp only [gA, gB, gC]; exact rfl) (fun K HK => ?_)
            refine step_store7 rfl 44 (.tmp 13) (.tmp 59) rfl u6.heap.size #[.int .i64 s2.m0.c, .slice l0 s2.m0.q.length j0, .bool s2.m0.busy, .slice l1 s2.m0.rest.length j1, .int .i64 s2.m0.acc, .int .i64 s2.m0.w, .int .i64 s2.m0.r, .int .i64 s2.m1.c, .slice l2 s2.m1.q.length j2, .bool s2.m1.busy, .slice l3 s2.m1.rest.length j3, .int .i64 s2.m1.acc, .int .i64 s2.m1.w, .int .i64 s2.m1.r, .bool s2.x0, .bool s2.x1] (by simp [Act.eval]) (by simp [Act.eval]) _ _ HZN.out (by kernel_rfl) rfl (by simp [Value.oneCell']) ?_
            intro u8 ff qf
            have f7 : ∃ S, Fr S wr u8 ∧ ∀ x ∈ S, w.heap.size ≤ x ∧ x ≠ B := ⟨u6.heap.size :: S5, ((((fd).trans f5' (U := S5) (by simp) (fun x hx => .inl hx)).then0 fa)).trans ff (fun x hx => .inl (List.mem_cons_of_mem _ hx)) (fun x hx => .inl (by simp at hx; simp [hx])), fun x hx => by rcases List.mem_cons.1 hx with hx | hx; exact ⟨by omega, by omega⟩; exact h5B x hx⟩
            refine HK.out (fun w' => ∃ S, Fr S wr w' ∧ ∀ x ∈ S, w.heap.size ≤ x ∧ x ≠ B) _ _ (fun _ h => h) f7 ?_
            clear HK K
            try simp only [Act.put, gD, gE, gF]
            refine walkT_take (o := _) (v := ?_) (by rw [HOPS.out]; simp only [gA, gB, gC]; exact rfl) (Or.inl ⟨rfl, ?_⟩) ?_
            rotate_left
            · (intro w hSw; have hSx := HFA.out _ hSw; (try dsimp only at hSx); clear hSw; go_simp) <;> (with_reducible rfl)
            simp only [Act.put, gD, gE, gF]
            refine walkT_done ?_
            clear HOPS OPS
            have h7 := (h6).keep ff (by simp)
            go_wp2_with fail
            go_meet
            exact ⟨d2, u6.heap.size, l0, j0, l1, j1, l2, j2, l3, j3, rfl, rfl, rfl, Lib.hid qf, Lib.hid h7, Lib.hid f7, Lib.hid ⟨by omega, by omega⟩⟩
          · skip
            refine walkT_call (o := _) (by rw [HOPS.out]; simp only [gA, gB, gC]; exact rfl) (fun K HK => ?_)
            go_simp
            obtain ⟨u6, hu6, fa, qa6⟩ : ∃ W, ((wr.alloc (.cells #[.int .i64 0, .slice none 0 0, .bool false, .slice none 0 0, .int .i64 0, .int .i64 0, .int .i64 0, .int .i64 0, .slice none 0 0, .bool false, .slice none 0 0, .int .i64 0, .int .i64 0, .int .i64 0, .bool false, .bool false] 44)).drew) = W ∧ Fr [] wr W ∧ W.heap[wr.heap.size]? = some (.cells #[.int .i64 0, .slice none 0 0, .bool false, .slice none 0 0, .int .i64 0, .int .i64 0, .int .i64 0, .int .i64 0, .slice none 0 0, .bool false, .slice none 0 0, .int .i64 0, .int .i64 0, .int .i64 0, .bool false, .bool false] 44 (0, 0)) := ⟨_, rfl, ((Fr.refl _ _).alloc _).drew, newA rfl⟩
            try rw [hu6]
            have HZN := Lib.hid qa6
            have hzz := lt_of_heap qa6
            have f6 : ∃ S, Fr S wr u6 ∧ ∀ x ∈ S, w.heap.size ≤ x ∧ x ≠ B := ⟨[], fa, by simp⟩
            refine HK.out (fun w' => ∃ S, Fr S wr w' ∧ ∀ x ∈ S, w.heap.size ≤ x ∧ x ≠ B) _ _ (fun _ h => h) f6 ?_
            clear HK K
            try simp only [Act.put, gD, gE, gF]
            refine walkT_call (o := _) (by rw [HOPS.out]; simp only [gA, gB, gC]; exact rfl) (fun K HK => ?_)
            refine step_call rfl 63 #[(.tmp 51), (.tmp 52), (.tmp 56)] #[22, 44, 94] rfl HEW.out #[.pointer (some ⟨d, 0, none⟩), .agg #[.int .i64 s.m0.c, .slice a0 s.m0.q.length k0, .bool s.m0.busy, .slice a1 s.m0.rest.length k1, .int .i64 s.m0.acc, .int .i64 s.m0.w, .int .i64 s.m0.r, .int .i64 s.m1.c, .slice a2 s.m1.q.length k2, .bool s.m1.busy, .slice a3 s.m1.rest.length k3, .int .i64 s.m1.acc, .int .i64 s.m1.w, .int .i64 s.m1.r, .bool s.x0, .bool s.x1], .agg #[.int .i64 what, .int .i64 en, .slice pa ps.length pc, .int .i64 n]] (by simp [Act.eval]) (HSTEPB.out u6 fa (by omega)) ?_
            rintro e u7 ⟨d2, v2, rfl, h5, S5, f5', hS5⟩
            obtain ⟨l0, j0, l1, j1, l2, j2, l3, j3, rfl⟩ := h5.form
            have h5B : ∀ x ∈ S5, w.heap.size ≤ x ∧ x ≠ B := fun x hx => ⟨(hS5 x hx).1, fun e => (hS5 x hx).2 (by simp [e])⟩
            have f5 : ∃ S, Fr S wr u7 ∧ ∀ x ∈ S, w.heap.size ≤ x ∧ x ≠ B := ⟨S5, (fa).trans f5' (U := S5) (by simp) (fun x hx => .inl hx), h5B⟩
            have hz5 := f5'.size
            have hzc := (fa).size
            have HZN := Lib.hid (show u7.heap[wr.heap.size]? = some (.cells #[.int .i64 0, .slice none 0 0, .bool false, .slice none 0 0, .int .i64 0, .int .i64 0, .int .i64 0, .int .i64 0, .slice none 0 0, .bool false, .slice none 0 0, .int .i64 0, .int .i64 0, .int .i64 0, .bool false, .bool false] 44 (0, 0)) from f5'.keep HZN.out (fun hm => (hS5 _ hm).2 (by simp)))
            refine ⟨_, rfl, ?_⟩
            refine HK.out (fun w' => ∃ S, Fr S wr w' ∧ ∀ x ∈ S, w.heap.size ≤ x ∧ x ≠ B) _ _ (fun _ h => h) (f5) ?_
            clear HK K
            simp only [Act.put, gD, gE, gF]
            refine walkT_take (o := _) (v := ?_) (by rw [HOPS.out]; simp only [gA, gB, gC]; exact rfl) (Or.inl ⟨rfl, ?_⟩) ?_
            rotate_left
            · (intro w hSw; have hSx := HFA.out _ hSw; (try dsimp only at hSx); clear hSw; go_simp) <;> (with_reducible rfl)
            simp only [Act.put, gD, gE, gF]
            refine walkT_take (o := _) (v := ?_) (by rw [HOPS.out]; simp only [gA, gB, gC]; exact rfl) (Or.inl ⟨rfl, ?_⟩) ?_
            rotate_left
            · (intro w hSw; have hSx := HFA.out _ hSw; (try dsimp only at hSx); clear hSw; go_simp) <;> (with_reducible rfl)
            simp only [Act.put, gD, gE, gF]
            refine walkT_take (o := _) (v := ?_) (by rw [HOPS.out]; simp only [gA, gB, gC]; exact rfl) (Or.inl ⟨rfl, ?_⟩) ?_
            rotate_left
            · (intro w hSw; have hSx := HFA.out _ hSw; (try dsimp only at hSx); clear hSw; go_simp) <;> (with_reducible rfl)
            simp only [Act.put, gD, gE, gF]
            refine walkT_take (o := _) (v := ?_) (by rw [HOPS.out]; simp only [gA, gB, gC]; exact rfl) (Or.inl ⟨rfl, ?_⟩) ?_
            rotate_left
            · (intro w hSw; have hSx := HFA.out _ hSw; (try dsimp only at hSx); clear hSw; go_simp) <;> (with_reducible rfl)
            simp only [Act.put, gD, gE, gF]
            refine walkT_take (o := _) (v := ?_) (by rw [HOPS.out]; simp only [gA, gB, gC]; exact rfl) (Or.inl ⟨rfl, ?_⟩) ?_
            rotate_left
            · (intro w hSw; have hSx := HFA.out _ hSw; (try dsimp only at hSx); clear hSw; go_simp) <;> (with_reducible rfl)
            simp only [Act.put, gD, gE, gF]
            refine walkT_call (o := _) (by rw [HOPS.out]; simp only [gA, gB, gC]; exact rfl) (fun K HK => ?_)
            refine step_store7 rfl 44 (.tmp 13) (.tmp 59) rfl wr.heap.size #[.int .i64 s2.m0.c, .slice l0 s2.m0.q.length j0, .bool s2.m0.busy, .slice l1 s2.m0.rest.length j1, .int .i64 s2.m0.acc, .int .i64 s2.m0.w, .int .i64 s2.m0.r, .int .i64 s2.m1.c, .slice l2 s2.m1.q.length j2, .bool s2.m1.busy, .slice l3 s2.m1.rest.length j3, .int .i64 s2.m1.acc, .int .i64 s2.m1.w, .int .i64 s2.m1.r, .bool s2.x0, .bool s2.x1] (by simp [Act.eval]) (by simp [Act.eval]) _ _ HZN.out (by kernel_rfl) rfl (by simp [Value.oneCell']) ?_
            intro u8 ff qf
            have f7 : ∃ S, Fr S wr u8 ∧ ∀ x ∈ S, w.heap.size ≤ x ∧ x ≠ B := ⟨wr.heap.size :: S5, (((fa).trans f5' (U := S5) (by simp) (fun x hx => .inl hx))).trans ff (fun x hx => .inl (List.mem_cons_of_mem _ hx)) (fun x hx => .inl (by simp at hx; simp [hx])), fun x hx => by rcases List.mem_cons.1 hx with hx | hx; exact ⟨by omega, by omega⟩; exact h5B x hx⟩
            refine HK.out (fun w' => ∃ S, Fr S wr w' ∧ ∀ x ∈ S, w.heap.size ≤ x ∧ x ≠ B) _ _ (fun _ h => h) f7 ?_
            clear HK K
            try simp only [Act.put, gD, gE, gF]
            refine walkT_take (o := _) (v := ?_) (by rw [HOPS.out]; simp only [gA, gB, gC]; exact rfl) (Or.inl ⟨rfl, ?_⟩) ?_
            rotate_left
            · (intro w hSw; have hSx := HFA.out _ hSw; (try dsimp only at hSx); clear hSw; go_simp) <;> (with_reducible rfl)
            simp only [Act.put, gD, gE, gF]
            refine walkT_done ?_
            clear HOPS OPS
            have h7 := (h5).keep ff (by simp)
            go_wp2_with fail
            go_meet
            exact ⟨d2, wr.heap.size, l0, j0, l1, j1, l2, j2, l3, j3, rfl, rfl, rfl, Lib.hid qf, Lib.hid h7, Lib.hid f7, Lib.hid ⟨by omega, by omega⟩⟩
        case rest =>
          clear HSTEP HSTEPB HEW HFA c0 c1 c2 c3
          obtain ⟨d2, B2, l0, j0, l1, j1, l2, j2, l3, j3, rfl, rfl, rfl, Q7, T7, F7, HB2⟩ := hcut
          rename World => w7
          have HIS := Lib.hid T7.out.is_
          have g7 : Hid (Fr [] w w7) := Lib.hid (by obtain ⟨S, f, hS⟩ := F7.out; exact GR.out.trans f (by simp) (fun x hx => .inr (hS x hx).1))
          have a7 : Hid (Acts15 w7 w.heap.size _ A.length cap A) := Lib.hid (by obtain ⟨S, f, hS⟩ := F7.out; exact AR.out.keep f GR.out.size (fun x hx => (hS x hx).1))
          have q9 : Hid (w7.heap[B]? = some (.cells #[.int .i64 s.m0.c, .slice a0 s.m0.q.length k0, .bool s.m0.busy, .slice a1 s.m0.rest.length k1, .int .i64 s.m0.acc, .int .i64 s.m0.w, .int .i64 s.m0.r, .int .i64 s.m1.c, .slice a2 s.m1.q.length k2, .bool s.m1.busy, .slice a3 s.m1.rest.length k3, .int .i64 s.m1.acc, .int .i64 s.m1.w, .int .i64 s.m1.r, .bool s.x0, .bool s.x1] 44 (0, 0))) := Lib.hid (by obtain ⟨S, f, hS⟩ := F7.out; exact f.keep QR.out (fun hm => (hS _ hm).2 rfl))
          have x0 : w7.cell? ⟨B2, 0, none⟩ = some (.int .i64 s2.m0.c) := cell_of (Q7.out)
          have x1 : w7.cell? ⟨B2, 1, none⟩ = some (.slice l0 s2.m0.q.length j0) := cell_of (Q7.out)
          have x2 : w7.cell? ⟨B2, 2, none⟩ = some (.bool s2.m0.busy) := cell_of (Q7.out)
          have x3 : w7.cell? ⟨B2, 3, none⟩ = some (.slice l1 s2.m0.rest.length j1) := cell_of (Q7.out)
          have x4 : w7.cell? ⟨B2, 4, none⟩ = some (.int .i64 s2.m0.acc) := cell_of (Q7.out)
          have x5 : w7.cell? ⟨B2, 5, none⟩ = some (.int .i64 s2.m0.w) := cell_of (Q7.out)
          have x6 : w7.cell? ⟨B2, 6, none⟩ = some (.int .i64 s2.m0.r) := cell_of (Q7.out)
          have x7 : w7.cell? ⟨B2, 7, none⟩ = some (.int .i64 s2.m1.c) := cell_of (Q7.out)
          have x8 : w7.cell? ⟨B2, 8, none⟩ = some (.slice l2 s2.m1.q.length j2) := cell_of (Q7.out)
          have x9 : w7.cell? ⟨B2, 9, none⟩ = some (.bool s2.m1.busy) := cell_of (Q7.out)
          have x10 : w7.cell? ⟨B2, 10, none⟩ = some (.slice l3 s2.m1.rest.length j3) := cell_of (Q7.out)
          have x11 : w7.cell? ⟨B2, 11, none⟩ = some (.int .i64 s2.m1.acc) := cell_of (Q7.out)
          have x12 : w7.cell? ⟨B2, 12, none⟩ = some (.int .i64 s2.m1.w) := cell_of (Q7.out)
          have x13 : w7.cell? ⟨B2, 13, none⟩ = some (.int .i64 s2.m1.r) := cell_of (Q7.out)
          have x14 : w7.cell? ⟨B2, 14, none⟩ = some (.bool s2.x0) := cell_of (Q7.out)
          have x15 : w7.cell? ⟨B2, 15, none⟩ = some (.bool s2.x1) := cell_of (Q7.out)
          clear GR AR QR HT F7
          as_aux_lemma =>
            go_wp2_with fail
            refine HIS.out.mono ?_
            rintro e w8 ⟨rfl, f8⟩
            have r2 : w8.heap[B2]? = some (.cells #[.int .i64 s2.m0.c, .slice l0 s2.m0.q.length j0, .bool s2.m0.busy, .slice l1 s2.m0.rest.length j1, .int .i64 s2.m0.acc, .int .i64 s2.m0.w, .int .i64 s2.m0.r, .int .i64 s2.m1.c, .slice l2 s2.m1.q.length j2, .bool s2.m1.busy, .slice l3 s2.m1.rest.length j3, .int .i64 s2.m1.acc, .int .i64 s2.m1.w, .int .i64 s2.m1.r, .bool s2.x0, .bool s2.x1] 44 (0, 0)) := f8.keep Q7.out (by simp)
            have r9 : w8.heap[B]? = some (.cells #[.int .i64 s.m0.c, .slice a0 s.m0.q.length k0, .bool s.m0.busy, .slice a1 s.m0.rest.length k1, .int .i64 s.m0.acc, .int .i64 s.m0.w, .int .i64 s.m0.r, .int .i64 s.m1.c, .slice a2 s.m1.q.length k2, .bool s.m1.busy, .slice a3 s.m1.rest.length k3, .int .i64 s.m1.acc, .int .i64 s.m1.w, .int .i64 s.m1.r, .bool s.x0, .bool s.x1] 44 (0, 0)) := f8.keep q9.out (by simp)
            have g8 := Lib.hid (g7.out.then0 f8)
            have a8 := Lib.hid (a7.out.keep f8 g7.out.size (by simp))
            have T8 := Lib.hid (T7.out.keep0 f8)
            have HF8 := Lib.hid fun (w' : World) (f : w'.heap[B2]? = some (.cells #[.int .i64 s2.m0.c, .slice l0 s2.m0.q.length j0, .bool s2.m0.busy, .slice l1 s2.m0.rest.length j1, .int .i64 s2.m0.acc, .int .i64 s2.m0.w, .int .i64 s2.m0.r, .int .i64 s2.m1.c, .slice l2 s2.m1.q.length j2, .bool s2.m1.busy, .slice l3 s2.m1.rest.length j3, .int .i64 s2.m1.acc, .int .i64 s2.m1.w, .int .i64 s2.m1.r, .bool s2.x0, .bool s2.x1] 44 (0, 0))) => (show w'.cell? ⟨B2, 0, none⟩ = some (.int .i64 s2.m0.c) ∧ w'.cell? ⟨B2, 1, none⟩ = some (.slice l0 s2.m0.q.length j0) ∧ w'.cell? ⟨B2, 2, none⟩ = some (.bool s2.m0.busy) ∧ w'.cell? ⟨B2, 3, none⟩ = some (.slice l1 s2.m0.rest.length j1) ∧ w'.cell? ⟨B2, 4, none⟩ = some (.int .i64 s2.m0.acc) ∧ w'.cell? ⟨B2, 5, none⟩ = some (.int .i64 s2.m0.w) ∧ w'.cell? ⟨B2, 6, none⟩ = some (.int .i64 s2.m0.r) ∧ w'.cell? ⟨B2, 7, none⟩ = some (.int .i64 s2.m1.c) ∧ w'.cell? ⟨B2, 8, none⟩ = some (.slice l2 s2.m1.q.length j2) ∧ w'.cell? ⟨B2, 9, none⟩ = some (.bool s2.m1.busy) ∧ w'.cell? ⟨B2, 10, none⟩ = some (.slice l3 s2.m1.rest.length j3) ∧ w'.cell? ⟨B2, 11, none⟩ = some (.int .i64 s2.m1.acc) ∧ w'.cell? ⟨B2, 12, none⟩ = some (.int .i64 s2.m1.w) ∧ w'.cell? ⟨B2, 13, none⟩ = some (.int .i64 s2.m1.r) ∧ w'.cell? ⟨B2, 14, none⟩ = some (.bool s2.x0) ∧ w'.cell? ⟨B2, 15, none⟩ = some (.bool s2.x1) from ⟨cell_of f, cell_of f, cell_of f, cell_of f, cell_of f, cell_of f, cell_of f, cell_of f, cell_of f, cell_of f, cell_of f, cell_of f, cell_of f, cell_of f, cell_of f, cell_of f⟩)
            clear f8 HIS Q7 q9 g7 a7 T7 x0 x1 x2 x3 x4 x5 x6 x7 x8 x9 x10 x11 x12 x13 x14 x15
            go_wp2_with fail
            have fd : Fr [] w8 w8.drew := (Fr.refl _ _).drew
            refine wp_region_order [(0, true), (1, true), (2, true), (3, false)] (fun w' => w'.heap[B2]? = some (.cells #[.int .i64 s2.m0.c, .slice l0 s2.m0.q.length j0, .bool s2.m0.busy, .slice l1 s2.m0.rest.length j1, .int .i64 s2.m0.acc, .int .i64 s2.m0.w, .int .i64 s2.m0.r, .int .i64 s2.m1.c, .slice l2 s2.m1.q.length j2, .bool s2.m1.busy, .slice l3 s2.m1.rest.length j3, .int .i64 s2.m1.acc, .int .i64 s2.m1.w, .int .i64 s2.m1.r, .bool s2.x0, .bool s2.x1] 44 (0, 0))) (by kernel_rfl) (by kernel_rfl) (fd.keep r2 (by simp)) ?_
            intro OPS HOPS
            have hops := HOPS.out
            try simp only [List.append_eq, List.cons_append, List.nil_append] at hops
            replace HOPS := Lib.hid hops
            clear hops
            refine walkO_take (o := _) (v := ?_) (by rw [HOPS.out]; simp only [gA, gB, gC]; exact rfl) (Or.inl ⟨rfl, ?_⟩) ?_
            rotate_left
            · (intro w hSw; have hSx := HF8.out _ hSw; (try dsimp only at hSx); clear hSw; go_simp) <;> (with_reducible rfl)
            simp only [Act.put, gD, gE, gF]
            refine walkO_take (o := _) (v := ?_) (by rw [HOPS.out]; simp only [gA, gB, gC]; exact rfl) (Or.inl ⟨rfl, ?_⟩) ?_
            rotate_left
            · (intro w hSw; have hSx := HF8.out _ hSw; (try dsimp only at hSx); clear hSw; go_simp) <;> (with_reducible rfl)
            simp only [Act.put, gD, gE, gF]
            refine walkO_take (o := _) (v := ?_) (by rw [HOPS.out]; simp only [gA, gB, gC]; exact rfl) (Or.inl ⟨rfl, ?_⟩) ?_
            rotate_left
            · (intro w hSw; have hSx := HF8.out _ hSw; (try dsimp only at hSx); clear hSw; go_simp) <;> (with_reducible rfl)
            simp only [Act.put, gD, gE, gF]
            refine walkO_call (o := _) (by rw [HOPS.out]; simp only [gA, gB, gC]; exact rfl) (fun K HK => ?_)
            refine step_store7 rfl 44 (.tmp 9) (.tmp 74) rfl B #[.int .i64 s2.m0.c, .slice l0 s2.m0.q.length j0, .bool s2.m0.busy, .slice l1 s2.m0.rest.length j1, .int .i64 s2.m0.acc, .int .i64 s2.m0.w, .int .i64 s2.m0.r, .int .i64 s2.m1.c, .slice l2 s2.m1.q.length j2, .bool s2.m1.busy, .slice l3 s2.m1.rest.length j3, .int .i64 s2.m1.acc, .int .i64 s2.m1.w, .int .i64 s2.m1.r, .bool s2.x0, .bool s2.x1] (by simp [Act.eval]) (by simp [Act.eval]) _ _ (show w8.drew.heap[B]? = some (.cells #[.int .i64 s.m0.c, .slice a0 s.m0.q.length k0, .bool s.m0.busy, .slice a1 s.m0.rest.length k1, .int .i64 s.m0.acc, .int .i64 s.m0.w, .int .i64 s.m0.r, .int .i64 s.m1.c, .slice a2 s.m1.q.length k2, .bool s.m1.busy, .slice a3 s.m1.rest.length k3, .int .i64 s.m1.acc, .int .i64 s.m1.w, .int .i64 s.m1.r, .bool s.x0, .bool s.x1] 44 (0, 0)) from (Fr.refl [] w8).drew.keep r9 (by simp)) (by kernel_rfl) rfl (by simp [Value.oneCell']) ?_
            intro w9 ff qf
            refine HK.out (fun w' => w'.heap[B2]? = some (.cells #[.int .i64 s2.m0.c, .slice l0 s2.m0.q.length j0, .bool s2.m0.busy, .slice l1 s2.m0.rest.length j1, .int .i64 s2.m0.acc, .int .i64 s2.m0.w, .int .i64 s2.m0.r, .int .i64 s2.m1.c, .slice l2 s2.m1.q.length j2, .bool s2.m1.busy, .slice l3 s2.m1.rest.length j3, .int .i64 s2.m1.acc, .int .i64 s2.m1.w, .int .i64 s2.m1.r, .bool s2.x0, .bool s2.x1] 44 (0, 0))) _ _ (fun _ h => h) (ff.keep (fd.keep r2 (by simp)) (by have := HB2.out.1; simp; omega)) ?_
            clear HK K
            try simp only [Act.put, gD, gE, gF]
            refine walkO_done ?_
            clear HOPS OPS
            have g9 := (g8.out.then0 fd).trans ff (U := []) (fun _ h => .inl h) (fun x hx => .inr (by simp at hx; have := HBW.out; omega))
            have a9 := (a8.out.keep fd g8.out.size (by simp)).keep ff (by have := (g8.out.then0 fd).size; exact this) (fun x hx => by simp at hx; have := HBW.out; omega)
            have T9 := Lib.hid (((T8.out.keep0 fd).keep ff (by simp)).less (B' := [B]) (by simp))
            have qR2 := qf
            clear ff fd r9
            go_wp2_with fail
            go_roundw
            case rel => exact ⟨k + 1, s2, d2, l0, j0, l1, j1, l2, j2, l3, j3, by omega, by go_num, rfl, Lib.hid qR2, T9, Lib.hid g9, Lib.hid a9⟩
            case measure => simp [intOf]; omega
    · as_aux_lemma =>
        go_wp2_with fail
        refine (known15 _).mono ?_
        rintro e w99 ⟨rfl, f99⟩
        go_wp2_with fail
        go_ret
        exact ⟨rfl, GR.out.then0 f99⟩
set_option maxHeartbeats 16000000 in
theorem duplexPlays_walk {p0 p1 : Int} {a : Option Addr} {len cap : Nat} (w : World) (hA : ∃ A, Acts15 w w.heap.size a len cap A) :
    Calls Try.prog 11 #[.int .i64 p0, .int .i64 p1, .slice a len cap] w fun e w' => e = .returned (.bool true) ∧ Fr [] w w' := by
  obtain ⟨A, hA⟩ := hA
  have HFW := Lib.hid (few15 hA)
  cases hb : fewB15 A with
  | false =>
    rw [hb] at HFW
    clear hA
    go_enter Try.func11, Try.ntmps11
    go_wp2_with fail
    refine HFW.out.mono ?_
    rintro e w' ⟨rfl, g0⟩
    have HG0 := Lib.hid g0
    clear g0
    go_wp2_with fail
    refine (known15 _).mono ?_
    rintro e w9 ⟨rfl, f9⟩
    go_wp2_with fail
    go_ret
    exact ⟨rfl, HG0.out.then0 f9⟩
  | true =>
    by_cases hx : (0 ≤ p0 ∧ p0 ≤ 4096) ∧ (0 ≤ p1 ∧ p1 ≤ 4096)
    · exact duplexPlays_main w hx.1 hx.2 hA hb
    · rw [hb] at HFW
      have HNEW := Lib.hid fun w1 => dx_new_bad w1 hx
      have HRN := Lib.hid fun w1 => r15_newbad w1 hx
      clear hx hA
      go_enter Try.func11, Try.ntmps11
      go_wp2_with fail
      refine HFW.out.mono ?_
      rintro e w' ⟨rfl, g0⟩
      have HG0 := Lib.hid g0
      clear g0
      go_wp2_with fail
      refine (HNEW.out _).mono ?_
      rintro e w1 ⟨rfl, g1⟩
      have HG1 := Lib.hid (HG0.out.then0 g1)
      clear g1
      go_wp2_with fail
      refine (HRN.out _).mono ?_
      rintro e w2 ⟨rfl, f2⟩
      obtain ⟨wz, hwz, fz, qz⟩ : ∃ W, w2.alloc (.cells #[.int .i64 0, .slice none 0 0, .bool false, .slice none 0 0, .int .i64 0, .int .i64 0, .int .i64 0, .int .i64 0, .slice none 0 0, .bool false, .slice none 0 0, .int .i64 0, .int .i64 0, .int .i64 0, .bool false, .bool false] 44) = W ∧ Fr [] w2 W ∧ W.heap[w2.heap.size]? = some (.cells #[.int .i64 0, .slice none 0 0, .bool false, .slice none 0 0, .int .i64 0, .int .i64 0, .int .i64 0, .int .i64 0, .slice none 0 0, .bool false, .slice none 0 0, .int .i64 0, .int .i64 0, .int .i64 0, .bool false, .bool false] 44 (0, 0)) := ⟨_, rfl, (Fr.refl _ _).alloc _, newA rfl⟩
      have HQZ := Lib.hid qz
      have HG2 := Lib.hid ((HG1.out.then0 f2).then0 fz)
      have hzz := lt_of_heap qz
      clear qz fz HNEW HRN HFW
      go_wp2_with (refine wpl_store rfl 44 _ _ rfl w2.heap.size #[.int .i64 0, .slice none 0 0, .bool false, .slice none 0 0, .int .i64 0, .int .i64 0, .int .i64 0, .int .i64 0, .slice none 0 0, .bool false, .slice none 0 0, .int .i64 0, .int .i64 0, .int .i64 0, .bool false, .bool false] (by rfl) (by rfl) _ _ HQZ.out (by kernel_rfl) rfl (by simp [Value.oneCell']) ?_)
      intro w3 f3 q3
      have hz2 : w.heap.size ≤ w2.heap.size := (HG1.out.then0 f2).size
      have HG := Lib.hid (show Fr [] w w3 from HG2.out.trans f3 (U := []) (by simp) (fun x hx => .inr (by simp at hx; omega)))
      clear f2 f3 q3 HQZ hzz hwz hz2
      go_wp2_with fail
      refine (known15 _).mono ?_
      rintro e w9 ⟨rfl, f9⟩
      go_wp2_with fail
      go_ret
      exact ⟨rfl, HG.out.then0 f9⟩
end Go.Proofs.Ytdoamelhclnphaa
