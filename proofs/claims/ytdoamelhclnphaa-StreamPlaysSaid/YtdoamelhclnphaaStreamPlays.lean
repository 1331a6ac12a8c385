/-
  Law 14: StreamPlays: the results of any calls of a new stream, and its state after each of them.
-/
import Derived.Test.YtdoamelhclnphaaStInv14
import Derived.Test.YtdoamelhclnphaaKnown14
import Derived.Deep.DeepCutAuto
import Derived.Deep.CutBlock
namespace Go.Proofs.Ytdoamelhclnphaa
open Go.RowKit
set_option maxRecDepth 100000

set_option maxHeartbeats 16000000 in
theorem streamPlays_main {c : Int} {a : Option Addr} {len cap : Nat} {A : List A14} (w : World) (hc0 : 0 ≤ c) (hc1 : c ≤ 4096) (hA : Acts14 w w.heap.size a len cap A) (hs : fewB14 A = true) :
    Calls Try.prog 5 #[.int .i64 c, .slice a len cap] w fun e w' => e = .returned (.bool true) ∧ Fr [] w w' := by
  have hle := hA.len_eq
  subst hle
  have HFW := Lib.hid (hs ▸ few14 hA)
  obtain ⟨hl20, hok, hsum⟩ := fewB14_iff hs
  have HOK : Hid (∀ x ∈ A, x.ps.length ≤ 100 ∧ tot x.ps ≤ 3000) := Lib.hid (fun x hx => hok x hx)
  have hl20' : (A.length : Int) ≤ 20 := by omega
  have HNEW := Lib.hid (sf_new c w hc0 hc1)
  have HRN := Lib.hid fun w1 => r_new w1 c hc0 hc1
  have HA0 := Lib.hid hA
  generalize hm0 : newM c = m0 at *
  clear hs hok hsum hl20 hA hm0 hc0 hc1
  go_enter Try.func5, Try.ntmps5
  go_wp2_with fail
  refine HFW.out.mono ?_
  rintro e w' ⟨rfl, rfl⟩
  go_wp2_with fail
  refine HNEW.out.mono ?_
  rintro e w1 ⟨b, F, rfl, g1, hF, h1⟩
  have ha1 := Lib.hid (HA0.out.keep g1 (Nat.le_refl _) (by simp))
  have HFS := Lib.hid (And.intro hF h1)
  clear HFW HNEW h1 hF HA0
  have hz1 := g1.size
  have HG1 := Lib.hid g1
  clear g1
  go_wp2_with fail
  refine (HRN.out _).mono ?_
  rintro e w2 ⟨v', rfl, f2, hv⟩
  obtain ⟨u1, u2, rfl, hq, hr⟩ := hv
  obtain ⟨a3, k3, rfl, _⟩ := id hq
  obtain ⟨a4, k4, rfl, _⟩ := id hr
  obtain ⟨wz, hwz, fz, qz⟩ : ∃ W, w2.alloc (.cells #[.int .i64 0, .slice none 0 0, .bool false, .slice none 0 0, .int .i64 0, .int .i64 0, .int .i64 0] 41) = W ∧ Fr [] w2 W ∧ S7 W w2.heap.size 0 none 0 0 false none 0 0 0 0 0 := ⟨_, rfl, (Fr.refl _ _).alloc _, newA rfl⟩
  have HQZ := Lib.hid qz
  have hzz := lt_of_heap qz
  clear qz
  have HQR := Lib.hid (And.intro hq hr)
  have hz2 := f2.size
  have HF2 := Lib.hid f2
  clear hq hr f2 HRN
  go_wp2_with (refine wpl_store rfl 41 _ _ rfl w2.heap.size #[.int .i64 m0.c, .slice a3 m0.q.length k3, .bool m0.busy, .slice a4 m0.rest.length k4, .int .i64 m0.acc, .int .i64 m0.w, .int .i64 m0.r] (by rfl) (by rfl) _ _ HQZ.out (by kernel_rfl) rfl (by simp [Value.oneCell']) ?_)
  intro w3 f3 q3
  have f23 : Fr [] w2 w3 := fz.trans f3 (by simp) (fun x hx => .inr (by simp at hx; omega))
  obtain ⟨B, hB⟩ : ∃ B, B = w2.heap.size := ⟨_, rfl⟩
  have Q4 : Hid (S7 w3 B m0.c a3 m0.q.length k3 m0.busy a4 m0.rest.length k4 m0.acc m0.w m0.r) := Lib.hid (by rw [hB]; exact q3)
  have T4 : Hid (SI w w3 [B] b m0 (.agg #[.int .i64 m0.c, .slice a3 m0.q.length k3, .bool m0.busy, .slice a4 m0.rest.length k4, .int .i64 m0.acc, .int .i64 m0.w, .int .i64 m0.r])) := Lib.hid (by
    have h := (HFS.out.2.keep0 HF2.out).keep0 f23
    have hl := (HFS.out.2).lt
    exact ⟨F, fun _ => False, h, ⟨_, _, rfl, HQR.out.1.keep f23 (by simp), HQR.out.2.keep f23 (by simp)⟩, fun _ _ hn => hn, fun x hx => ⟨HFS.out.1 x hx, by have := hl x hx; simp; omega⟩, fun x hx => hx.elim⟩)
  have HBW : Hid (w.heap.size ≤ B) := Lib.hid (by omega)
  have G4 := Lib.hid ((HG1.out.then0 HF2.out).then0 f23)
  have A4 := Lib.hid (ha1.out.keep (HF2.out.then0 f23) HG1.out.size (by simp))
  clear q3 f3 f23 fz HQZ HQR HF2 HFS HG1 ha1 hzz hz1 hz2
  rw [← hB]
  clear hB
  go_wp2_with fail
  go_loopw [5, 9] (fun v5 i wr => ∃ (k : Nat) (m : SM) (b : Nat) (a3 : Option Addr) (k3 : Nat) (a4 : Option Addr) (k4 : Nat), k ≤ A.length ∧ i = .int .i64 k ∧ v5 = .pointer (some ⟨b, 0, none⟩) ∧ Hid (S7 wr B m.c a3 m.q.length k3 m.busy a4 m.rest.length k4 m.acc m.w m.r) ∧ Hid (SI w wr [B] b m (.agg #[.int .i64 m.c, .slice a3 m.q.length k3, .bool m.busy, .slice a4 m.rest.length k4, .int .i64 m.acc, .int .i64 m.w, .int .i64 m.r])) ∧ Hid (Fr [] w wr) ∧ Hid (Acts14 wr w.heap.size a A.length cap A)) (fun _ i _ => A.length - (intOf i).toNat)
  case atStart => exact ⟨0, m0, b, a3, k3, a4, k4, by omega, rfl, rfl, Q4, T4, G4, A4⟩
  case round =>
    clear Q4 T4 G4 A4
    obtain ⟨k, m, b, a3, k3, a4, k4, hk, rfl, rfl, QR, HT, GR, AR⟩ := hrel
    rename World => wr
    by_cases hlt : (k : Int) < A.length
    · as_aux_lemma =>
        have hkA : k < A.length := by omega
        obtain ⟨ab, ao, pa, pl, pc, rfl, habM, hab, c0, c1, c2, hp, hbw, hbn⟩ := AR.out.at_ k hkA
        have hok := HOK.out A[k] (List.getElem_mem hkA)
        generalize A[k] = ak at c0 c1 c2 hp hbw hbn hok
        obtain ⟨what, ps, n⟩ := ak
        dsimp only at c0 c1 c2 hp hbw hbn hok
        have hpl := hp.len_eq
        subst hpl
        have hgs := GR.out.size
        have hBlt := lt_of_heap QR.out
        have HBL := HBW.out
        obtain ⟨m2, hm2⟩ : ∃ m2, stepM what ps n m = m2 := ⟨_, rfl⟩
        have HSTEP := Lib.hid fun (W : World) (f : Fr [] wr W) => hm2 ▸ (HT.out.keep0 f).step (Nat.le_trans hgs f.size) (by have := f.size; simp; omega) (hp.keep f (by simp)) hok.1 hok.2 (what := what) (n := n)
        have HSTEPB := Lib.hid fun (W : World) (f : Fr [] wr W) (hw : wr.heap.size < W.heap.size) => hm2 ▸ (HT.out.out f [wr.heap.size] (by simp)).step (Nat.le_trans hgs f.size) (by simp; omega) (hp.keep f (by simp)) hok.1 hok.2 (what := what) (n := n)
        have HEW := Lib.hid (Go.Proofs.enters_of Try.func38 (by kernel_rfl) rfl)
        have HFA := Lib.hid fun (w' : World) (hf : ∃ S, Fr S wr w' ∧ ∀ x ∈ S, w.heap.size ≤ x ∧ x ≠ B) => (show w'.cell? ⟨B, 0, none⟩ = some (.int .i64 m.c) ∧ w'.cell? ⟨B, 1, none⟩ = some (.slice a3 m.q.length k3) ∧ w'.cell? ⟨B, 2, none⟩ = some (.bool m.busy) ∧ w'.cell? ⟨B, 3, none⟩ = some (.slice a4 m.rest.length k4) ∧ w'.cell? ⟨B, 4, none⟩ = some (.int .i64 m.acc) ∧ w'.cell? ⟨B, 5, none⟩ = some (.int .i64 m.w) ∧ w'.cell? ⟨B, 6, none⟩ = some (.int .i64 m.r) ∧ w'.cell? ⟨ab, ao + k * 3, none⟩ = some (.int .i64 what) ∧ w'.cell? ⟨ab, ao + k * 3 + 1, none⟩ = some (.slice pa ps.length pc) ∧ w'.cell? ⟨ab, ao + k * 3 + 2, none⟩ = some (.int .i64 n) from by
          obtain ⟨S, f, hS⟩ := hf
          have q' := f.keep QR.out (fun hm => (hS _ hm).2 rfl)
          have hk : ∀ j, w'.cell? ⟨ab, j, none⟩ = wr.cell? ⟨ab, j, none⟩ := fun j => World.cell?_of_block (w := wr) (f.block ab hab (fun hm => by have := (hS _ hm).1; omega))
          exact ⟨cell_of q', cell_of q', cell_of q', cell_of q', cell_of q', cell_of q', cell_of q', (hk _).trans c0, (hk _).trans c1, (hk _).trans c2⟩)
        have habB : ab ≠ B := by omega
        clear hp hok
        go_upto_region 12 with fail
        go_cut [10, 11, 12] (fun v11 v12 v13 wx => ∃ (b2 B2 : Nat) (l3 : Option Addr) (j3 : Nat) (l4 : Option Addr) (j4 : Nat), v11 = .pointer (some ⟨b2, 0, none⟩) ∧ v12 = .pointer (some ⟨B2, 0, none⟩) ∧ v13 = .bool true ∧ Hid (S7 wx B2 m2.c l3 m2.q.length j3 m2.busy l4 m2.rest.length j4 m2.acc m2.w m2.r) ∧ Hid (SI w wx [B2, B] b2 m2 (.agg #[.int .i64 m2.c, .slice l3 m2.q.length j3, .bool m2.busy, .slice l4 m2.rest.length j4, .int .i64 m2.acc, .int .i64 m2.w, .int .i64 m2.r])) ∧ Hid (∃ S, Fr S wr wx ∧ ∀ x ∈ S, w.heap.size ≤ x ∧ x ≠ B) ∧ Hid (B2 ≠ B ∧ w.heap.size ≤ B2))
        case first =>
          clear c0 c1 c2
          have f0 : ∃ S, Fr S wr wr.drew ∧ ∀ x ∈ S, w.heap.size ≤ x ∧ x ≠ B := ⟨[], (Fr.refl _ _).drew, by simp⟩
          have fd : Fr [] wr wr.drew := (Fr.refl _ _).drew
          refine wp_region_tree (.take 0 (.take 1 (.take 2 (.take 3 (.take 4 (.take 5 (.two 6 11 (.take 7 (.take 8 (.take 9 (.take 10 (.one 11 (.take 12 (.one 13 (.take 14 .nil)))))))) (.one 6 (.take 7 (.take 8 (.take 9 (.take 10 (.take 12 (.one 13 (.take 14 .nil))))))))))))))) (fun w' => ∃ S, Fr S wr w' ∧ ∀ x ∈ S, w.heap.size ≤ x ∧ x ≠ B) (by kernel_rfl) (by kernel_rfl) f0 ?_
          intro OPS HOPS
          have hops := HOPS.out
          try simp only [List.append_eq, List.cons_append, List.nil_append] at hops
          replace HOPS := Lib.hid hops
          clear hops
          refine walkT_take (o := _) (v := ?_) (by rw [HOPS.out]; simp only [List.getElem?_toArray, List.getElem?_cons_succ, List.getElem?_cons_zero]; exact rfl) (Or.inl ⟨rfl, ?_⟩) ?_
          rotate_left
          · (intro w hSw; have hSx := HFA.out _ hSw; (try dsimp only at hSx); clear hSw; go_simp) <;> (with_reducible rfl)
          simp only [Act.put, List.setIfInBounds_toArray, List.set_cons_zero, List.set_cons_succ]
          refine walkT_take (o := _) (v := ?_) (by rw [HOPS.out]; simp only [List.getElem?_toArray, List.getElem?_cons_succ, List.getElem?_cons_zero]; exact rfl) (Or.inl ⟨rfl, ?_⟩) ?_
          rotate_left
          · (intro w hSw; have hSx := HFA.out _ hSw; (try dsimp only at hSx); clear hSw; go_simp) <;> (with_reducible rfl)
          simp only [Act.put, List.setIfInBounds_toArray, List.set_cons_zero, List.set_cons_succ]
          refine walkT_take (o := _) (v := ?_) (by rw [HOPS.out]; simp only [List.getElem?_toArray, List.getElem?_cons_succ, List.getElem?_cons_zero]; exact rfl) (Or.inl ⟨rfl, ?_⟩) ?_
          rotate_left
          · (intro w hSw; have hSx := HFA.out _ hSw; (try dsimp only at hSx); clear hSw; go_simp) <;> (with_reducible rfl)
          simp only [Act.put, List.setIfInBounds_toArray, List.set_cons_zero, List.set_cons_succ]
          refine walkT_take (o := _) (v := ?_) (by rw [HOPS.out]; simp only [List.getElem?_toArray, List.getElem?_cons_succ, List.getElem?_cons_zero]; exact rfl) (Or.inl ⟨rfl, ?_⟩) ?_
          rotate_left
          · (intro w hSw; have hSx := HFA.out _ hSw; (try dsimp only at hSx); clear hSw; go_simp) <;> (with_reducible rfl)
          simp only [Act.put, List.setIfInBounds_toArray, List.set_cons_zero, List.set_cons_succ]
          refine walkT_take (o := _) (v := ?_) (by rw [HOPS.out]; simp only [List.getElem?_toArray, List.getElem?_cons_succ, List.getElem?_cons_zero]; exact rfl) (Or.inl ⟨rfl, ?_⟩) ?_
          rotate_left
          · (intro w hSw; have hSx := HFA.out _ hSw; (try dsimp only at hSx); clear hSw; go_simp) <;> (with_reducible rfl)
          simp only [Act.put, List.setIfInBounds_toArray, List.set_cons_zero, List.set_cons_succ]
          refine walkT_take (o := _) (v := ?_) (by rw [HOPS.out]; simp only [List.getElem?_toArray, List.getElem?_cons_succ, List.getElem?_cons_zero]; exact rfl) (Or.inl ⟨rfl, ?_⟩) ?_
          rotate_left
          · (intro w hSw; have hSx := HFA.out _ hSw; (try dsimp only at hSx); clear hSw; go_simp) <;> (with_reducible rfl)
          simp only [Act.put, List.setIfInBounds_toArray, List.set_cons_zero, List.set_cons_succ]
          refine walkT_two ?_ ?_
          · skip
            refine walkT_call (o := _) (by rw [HOPS.out]; simp only [List.getElem?_toArray, List.getElem?_cons_succ, List.getElem?_cons_zero]; exact rfl) (fun K HK => ?_)
            refine step_call rfl 38 #[(.tmp 47), (.tmp 48), (.tmp 52)] #[23, 41, 55] rfl HEW.out #[.pointer (some ⟨b, 0, none⟩), .agg #[.int .i64 m.c, .slice a3 m.q.length k3, .bool m.busy, .slice a4 m.rest.length k4, .int .i64 m.acc, .int .i64 m.w, .int .i64 m.r], .agg #[.int .i64 what, .slice pa ps.length pc, .int .i64 n]] (by simp [Act.eval]) (HSTEP.out _ fd) ?_
            rintro e u6 ⟨b2, v2, rfl, h5, S5, f5', hS5⟩
            obtain ⟨l3, j3, l4, j4, rfl⟩ := h5.form
            have h5B : ∀ x ∈ S5, w.heap.size ≤ x ∧ x ≠ B := fun x hx => ⟨(hS5 x hx).1, fun e => (hS5 x hx).2 (by simp [e])⟩
            have f5 : ∃ S, Fr S wr u6 ∧ ∀ x ∈ S, w.heap.size ≤ x ∧ x ≠ B := ⟨S5, (fd).trans f5' (U := S5) (by simp) (fun x hx => .inl hx), h5B⟩
            have hz5 := f5'.size
            have hzc := (fd).size
            refine ⟨_, rfl, ?_⟩
            refine HK.out (fun w' => ∃ S, Fr S wr w' ∧ ∀ x ∈ S, w.heap.size ≤ x ∧ x ≠ B) _ _ (fun _ h => h) (f5) ?_
            clear HK K
            simp only [Act.put, List.setIfInBounds_toArray, List.set_cons_zero, List.set_cons_succ]
            refine walkT_take (o := _) (v := ?_) (by rw [HOPS.out]; simp only [List.getElem?_toArray, List.getElem?_cons_succ, List.getElem?_cons_zero]; exact rfl) (Or.inl ⟨rfl, ?_⟩) ?_
            rotate_left
            · (intro w hSw; have hSx := HFA.out _ hSw; (try dsimp only at hSx); clear hSw; go_simp) <;> (with_reducible rfl)
            simp only [Act.put, List.setIfInBounds_toArray, List.set_cons_zero, List.set_cons_succ]
            refine walkT_take (o := _) (v := ?_) (by rw [HOPS.out]; simp only [List.getElem?_toArray, List.getElem?_cons_succ, List.getElem?_cons_zero]; exact rfl) (Or.inl ⟨rfl, ?_⟩) ?_
            rotate_left
            · (intro w hSw; have hSx := HFA.out _ hSw; (try dsimp only at hSx); clear hSw; go_simp) <;> (with_reducible rfl)
            simp only [Act.put, List.setIfInBounds_toArray, List.set_cons_zero, List.set_cons_succ]
            refine walkT_take (o := _) (v := ?_) (by rw [HOPS.out]; simp only [List.getElem?_toArray, List.getElem?_cons_succ, List.getElem?_cons_zero]; exact rfl) (Or.inl ⟨rfl, ?_⟩) ?_
            rotate_left
            · (intro w hSw; have hSx := HFA.out _ hSw; (try dsimp only at hSx); clear hSw; go_simp) <;> (with_reducible rfl)
            simp only [Act.put, List.setIfInBounds_toArray, List.set_cons_zero, List.set_cons_succ]
            refine walkT_take (o := _) (v := ?_) (by rw [HOPS.out]; simp only [List.getElem?_toArray, List.getElem?_cons_succ, List.getElem?_cons_zero]; exact rfl) (Or.inl ⟨rfl, ?_⟩) ?_
            rotate_left
            · (intro w hSw; have hSx := HFA.out _ hSw; (try dsimp only at hSx); clear hSw; go_simp) <;> (with_reducible rfl)
            simp only [Act.put, List.setIfInBounds_toArray, List.set_cons_zero, List.set_cons_succ]
            refine walkT_call (o := _) (by rw [HOPS.out]; simp only [List.getElem?_toArray, List.getElem?_cons_succ, List.getElem?_cons_zero]; exact rfl) (fun K HK => ?_)
            go_simp
            obtain ⟨u7, hu7, fa, qa7⟩ : ∃ W, (u6.alloc (.cells #[.int .i64 0, .slice none 0 0, .bool false, .slice none 0 0, .int .i64 0, .int .i64 0, .int .i64 0] 41)) = W ∧ Fr [] u6 W ∧ S7 W u6.heap.size 0 none 0 0 false none 0 0 0 0 0 := ⟨_, rfl, (Fr.refl _ _).alloc _, newA rfl⟩
            try rw [hu7]
            have HZN := Lib.hid qa7
            have hzz := lt_of_heap qa7
            have f6 : ∃ S, Fr S wr u7 ∧ ∀ x ∈ S, w.heap.size ≤ x ∧ x ≠ B := ⟨S5, ((fd).trans f5' (U := S5) (by simp) (fun x hx => .inl hx)).then0 fa, h5B⟩
            have h6 := h5.out fa [u6.heap.size] (by simp)
            refine HK.out (fun w' => ∃ S, Fr S wr w' ∧ ∀ x ∈ S, w.heap.size ≤ x ∧ x ≠ B) _ _ (fun _ h => h) f6 ?_
            clear HK K
            try simp only [Act.put, List.setIfInBounds_toArray, List.set_cons_zero, List.set_cons_succ]
            refine walkT_take (o := _) (v := ?_) (by rw [HOPS.out]; simp only [List.getElem?_toArray, List.getElem?_cons_succ, List.getElem?_cons_zero]; exact rfl) (Or.inl ⟨rfl, ?_⟩) ?_
            rotate_left
            · (intro w hSw; have hSx := HFA.out _ hSw; (try dsimp only at hSx); clear hSw; go_simp) <;> (with_reducible rfl)
            simp only [Act.put, List.setIfInBounds_toArray, List.set_cons_zero, List.set_cons_succ]
            refine walkT_call (o := _) (by rw [HOPS.out]; simp only [List.getElem?_toArray, List.getElem?_cons_succ, List.getElem?_cons_zero]; exact rfl) (fun K HK => ?_)
            refine step_store7 rfl 41 (.tmp 11) (.tmp 55) rfl u6.heap.size #[.int .i64 m2.c, .slice l3 m2.q.length j3, .bool m2.busy, .slice l4 m2.rest.length j4, .int .i64 m2.acc, .int .i64 m2.w, .int .i64 m2.r] (by simp [Act.eval]) (by simp [Act.eval]) _ _ HZN.out (by kernel_rfl) rfl (by simp [Value.oneCell']) ?_
            intro u8 ff qf
            have f7 : ∃ S, Fr S wr u8 ∧ ∀ x ∈ S, w.heap.size ≤ x ∧ x ≠ B := ⟨u6.heap.size :: S5, ((((fd).trans f5' (U := S5) (by simp) (fun x hx => .inl hx)).then0 fa)).trans ff (fun x hx => .inl (List.mem_cons_of_mem _ hx)) (fun x hx => .inl (by simp at hx; simp [hx])), fun x hx => by rcases List.mem_cons.1 hx with hx | hx; exact ⟨by omega, by omega⟩; exact h5B x hx⟩
            refine HK.out (fun w' => ∃ S, Fr S wr w' ∧ ∀ x ∈ S, w.heap.size ≤ x ∧ x ≠ B) _ _ (fun _ h => h) f7 ?_
            clear HK K
            try simp only [Act.put, List.setIfInBounds_toArray, List.set_cons_zero, List.set_cons_succ]
            refine walkT_take (o := _) (v := ?_) (by rw [HOPS.out]; simp only [List.getElem?_toArray, List.getElem?_cons_succ, List.getElem?_cons_zero]; exact rfl) (Or.inl ⟨rfl, ?_⟩) ?_
            rotate_left
            · (intro w hSw; have hSx := HFA.out _ hSw; (try dsimp only at hSx); clear hSw; go_simp) <;> (with_reducible rfl)
            simp only [Act.put, List.setIfInBounds_toArray, List.set_cons_zero, List.set_cons_succ]
            refine walkT_done ?_
            clear HOPS OPS
            have h7 := (h6).keep ff (by simp)
            go_wp2_with fail
            go_meet
            exact ⟨b2, u6.heap.size, l3, j3, l4, j4, rfl, rfl, rfl, Lib.hid qf, Lib.hid h7, Lib.hid f7, Lib.hid ⟨by omega, by omega⟩⟩
          · skip
            refine walkT_call (o := _) (by rw [HOPS.out]; simp only [List.getElem?_toArray, List.getElem?_cons_succ, List.getElem?_cons_zero]; exact rfl) (fun K HK => ?_)
            go_simp
            obtain ⟨u6, hu6, fa, qa6⟩ : ∃ W, ((wr.alloc (.cells #[.int .i64 0, .slice none 0 0, .bool false, .slice none 0 0, .int .i64 0, .int .i64 0, .int .i64 0] 41)).drew) = W ∧ Fr [] wr W ∧ S7 W wr.heap.size 0 none 0 0 false none 0 0 0 0 0 := ⟨_, rfl, ((Fr.refl _ _).alloc _).drew, newA rfl⟩
            try rw [hu6]
            have HZN := Lib.hid qa6
            have hzz := lt_of_heap qa6
            have f6 : ∃ S, Fr S wr u6 ∧ ∀ x ∈ S, w.heap.size ≤ x ∧ x ≠ B := ⟨[], fa, by simp⟩
            refine HK.out (fun w' => ∃ S, Fr S wr w' ∧ ∀ x ∈ S, w.heap.size ≤ x ∧ x ≠ B) _ _ (fun _ h => h) f6 ?_
            clear HK K
            try simp only [Act.put, List.setIfInBounds_toArray, List.set_cons_zero, List.set_cons_succ]
            refine walkT_call (o := _) (by rw [HOPS.out]; simp only [List.getElem?_toArray, List.getElem?_cons_succ, List.getElem?_cons_zero]; exact rfl) (fun K HK => ?_)
            refine step_call rfl 38 #[(.tmp 47), (.tmp 48), (.tmp 52)] #[23, 41, 55] rfl HEW.out #[.pointer (some ⟨b, 0, none⟩), .agg #[.int .i64 m.c, .slice a3 m.q.length k3, .bool m.busy, .slice a4 m.rest.length k4, .int .i64 m.acc, .int .i64 m.w, .int .i64 m.r], .agg #[.int .i64 what, .slice pa ps.length pc, .int .i64 n]] (by simp [Act.eval]) (HSTEPB.out u6 fa (by omega)) ?_
            rintro e u7 ⟨b2, v2, rfl, h5, S5, f5', hS5⟩
            obtain ⟨l3, j3, l4, j4, rfl⟩ := h5.form
            have h5B : ∀ x ∈ S5, w.heap.size ≤ x ∧ x ≠ B := fun x hx => ⟨(hS5 x hx).1, fun e => (hS5 x hx).2 (by simp [e])⟩
            have f5 : ∃ S, Fr S wr u7 ∧ ∀ x ∈ S, w.heap.size ≤ x ∧ x ≠ B := ⟨S5, (fa).trans f5' (U := S5) (by simp) (fun x hx => .inl hx), h5B⟩
            have hz5 := f5'.size
            have hzc := (fa).size
            have HZN := Lib.hid (show S7 u7 wr.heap.size 0 none 0 0 false none 0 0 0 0 0 from f5'.keep HZN.out (fun hm => (hS5 _ hm).2 (by simp)))
            refine ⟨_, rfl, ?_⟩
            refine HK.out (fun w' => ∃ S, Fr S wr w' ∧ ∀ x ∈ S, w.heap.size ≤ x ∧ x ≠ B) _ _ (fun _ h => h) (f5) ?_
            clear HK K
            simp only [Act.put, List.setIfInBounds_toArray, List.set_cons_zero, List.set_cons_succ]
            refine walkT_take (o := _) (v := ?_) (by rw [HOPS.out]; simp only [List.getElem?_toArray, List.getElem?_cons_succ, List.getElem?_cons_zero]; exact rfl) (Or.inl ⟨rfl, ?_⟩) ?_
            rotate_left
            · (intro w hSw; have hSx := HFA.out _ hSw; (try dsimp only at hSx); clear hSw; go_simp) <;> (with_reducible rfl)
            simp only [Act.put, List.setIfInBounds_toArray, List.set_cons_zero, List.set_cons_succ]
            refine walkT_take (o := _) (v := ?_) (by rw [HOPS.out]; simp only [List.getElem?_toArray, List.getElem?_cons_succ, List.getElem?_cons_zero]; exact rfl) (Or.inl ⟨rfl, ?_⟩) ?_
            rotate_left
            · (intro w hSw; have hSx := HFA.out _ hSw; (try dsimp only at hSx); clear hSw; go_simp) <;> (with_reducible rfl)
            simp only [Act.put, List.setIfInBounds_toArray, List.set_cons_zero, List.set_cons_succ]
            refine walkT_take (o := _) (v := ?_) (by rw [HOPS.out]; simp only [List.getElem?_toArray, List.getElem?_cons_succ, List.getElem?_cons_zero]; exact rfl) (Or.inl ⟨rfl, ?_⟩) ?_
            rotate_left
            · (intro w hSw; have hSx := HFA.out _ hSw; (try dsimp only at hSx); clear hSw; go_simp) <;> (with_reducible rfl)
            simp only [Act.put, List.setIfInBounds_toArray, List.set_cons_zero, List.set_cons_succ]
            refine walkT_take (o := _) (v := ?_) (by rw [HOPS.out]; simp only [List.getElem?_toArray, List.getElem?_cons_succ, List.getElem?_cons_zero]; exact rfl) (Or.inl ⟨rfl, ?_⟩) ?_
            rotate_left
            · (intro w hSw; have hSx := HFA.out _ hSw; (try dsimp only at hSx); clear hSw; go_simp) <;> (with_reducible rfl)
            simp only [Act.put, List.setIfInBounds_toArray, List.set_cons_zero, List.set_cons_succ]
            refine walkT_take (o := _) (v := ?_) (by rw [HOPS.out]; simp only [List.getElem?_toArray, List.getElem?_cons_succ, List.getElem?_cons_zero]; exact rfl) (Or.inl ⟨rfl, ?_⟩) ?_
            rotate_left
            · (intro w hSw; have hSx := HFA.out _ hSw; (try dsimp only at hSx); clear hSw; go_simp) <;> (with_reducible rfl)
            simp only [Act.put, List.setIfInBounds_toArray, List.set_cons_zero, List.set_cons_succ]
            refine walkT_call (o := _) (by rw [HOPS.out]; simp only [List.getElem?_toArray, List.getElem?_cons_succ, List.getElem?_cons_zero]; exact rfl) (fun K HK => ?_)
            refine step_store7 rfl 41 (.tmp 11) (.tmp 55) rfl wr.heap.size #[.int .i64 m2.c, .slice l3 m2.q.length j3, .bool m2.busy, .slice l4 m2.rest.length j4, .int .i64 m2.acc, .int .i64 m2.w, .int .i64 m2.r] (by simp [Act.eval]) (by simp [Act.eval]) _ _ HZN.out (by kernel_rfl) rfl (by simp [Value.oneCell']) ?_
            intro u8 ff qf
            have f7 : ∃ S, Fr S wr u8 ∧ ∀ x ∈ S, w.heap.size ≤ x ∧ x ≠ B := ⟨wr.heap.size :: S5, (((fa).trans f5' (U := S5) (by simp) (fun x hx => .inl hx))).trans ff (fun x hx => .inl (List.mem_cons_of_mem _ hx)) (fun x hx => .inl (by simp at hx; simp [hx])), fun x hx => by rcases List.mem_cons.1 hx with hx | hx; exact ⟨by omega, by omega⟩; exact h5B x hx⟩
            refine HK.out (fun w' => ∃ S, Fr S wr w' ∧ ∀ x ∈ S, w.heap.size ≤ x ∧ x ≠ B) _ _ (fun _ h => h) f7 ?_
            clear HK K
            try simp only [Act.put, List.setIfInBounds_toArray, List.set_cons_zero, List.set_cons_succ]
            refine walkT_take (o := _) (v := ?_) (by rw [HOPS.out]; simp only [List.getElem?_toArray, List.getElem?_cons_succ, List.getElem?_cons_zero]; exact rfl) (Or.inl ⟨rfl, ?_⟩) ?_
            rotate_left
            · (intro w hSw; have hSx := HFA.out _ hSw; (try dsimp only at hSx); clear hSw; go_simp) <;> (with_reducible rfl)
            simp only [Act.put, List.setIfInBounds_toArray, List.set_cons_zero, List.set_cons_succ]
            refine walkT_done ?_
            clear HOPS OPS
            have h7 := (h5).keep ff (by simp)
            go_wp2_with fail
            go_meet
            exact ⟨b2, wr.heap.size, l3, j3, l4, j4, rfl, rfl, rfl, Lib.hid qf, Lib.hid h7, Lib.hid f7, Lib.hid ⟨by omega, by omega⟩⟩
        case rest =>
          clear HSTEP HSTEPB HEW HFA c0 c1 c2
          obtain ⟨b2, B2, l3, j3, l4, j4, rfl, rfl, rfl, Q7, T7, F7, HB2⟩ := hcut
          rename World => w7
          have HIS := Lib.hid T7.out.is_
          have g7 : Hid (Fr [] w w7) := Lib.hid (by obtain ⟨S, f, hS⟩ := F7.out; exact GR.out.trans f (by simp) (fun x hx => .inr (hS x hx).1))
          have a7 : Hid (Acts14 w7 w.heap.size _ A.length cap A) := Lib.hid (by obtain ⟨S, f, hS⟩ := F7.out; exact AR.out.keep f GR.out.size (fun x hx => (hS x hx).1))
          have q9 : Hid (S7 w7 B m.c a3 m.q.length k3 m.busy a4 m.rest.length k4 m.acc m.w m.r) := Lib.hid (by obtain ⟨S, f, hS⟩ := F7.out; exact f.keep QR.out (fun hm => (hS _ hm).2 rfl))
          obtain ⟨x0, x1, x2, x3, x4, x5, x6, p0, p1, p2, p3, p4, p5, p6⟩ := (show S7 w7 B2 m2.c l3 m2.q.length j3 m2.busy l4 m2.rest.length j4 m2.acc m2.w m2.r from Q7.out).cells
          clear GR AR QR HT F7
          as_aux_lemma =>
            go_wp2_with fail
            refine HIS.out.mono ?_
            rintro e w8 ⟨rfl, f8⟩
            have r2 : S7 w8 B2 m2.c l3 m2.q.length j3 m2.busy l4 m2.rest.length j4 m2.acc m2.w m2.r := f8.keep Q7.out (by simp)
            have r9 : S7 w8 B m.c a3 m.q.length k3 m.busy a4 m.rest.length k4 m.acc m.w m.r := f8.keep q9.out (by simp)
            have g8 := Lib.hid (g7.out.then0 f8)
            have a8 := Lib.hid (a7.out.keep f8 g7.out.size (by simp))
            have T8 := Lib.hid (T7.out.keep0 f8)
            have HF8 := Lib.hid fun (w' : World) (f : S7 w' B2 m2.c l3 m2.q.length j3 m2.busy l4 m2.rest.length j4 m2.acc m2.w m2.r) => (show w'.cell? ⟨B2, 0, none⟩ = some (.int .i64 m2.c) ∧ w'.cell? ⟨B2, 1, none⟩ = some (.slice l3 m2.q.length j3) ∧ w'.cell? ⟨B2, 2, none⟩ = some (.bool m2.busy) ∧ w'.cell? ⟨B2, 3, none⟩ = some (.slice l4 m2.rest.length j4) ∧ w'.cell? ⟨B2, 4, none⟩ = some (.int .i64 m2.acc) ∧ w'.cell? ⟨B2, 5, none⟩ = some (.int .i64 m2.w) ∧ w'.cell? ⟨B2, 6, none⟩ = some (.int .i64 m2.r) from (let q := S7.cells f; ⟨q.1, q.2.1, q.2.2.1, q.2.2.2.1, q.2.2.2.2.1, q.2.2.2.2.2.1, q.2.2.2.2.2.2.1⟩))
            clear f8 HIS Q7 q9 g7 a7 T7 x0 x1 x2 x3 x4 x5 x6 p0 p1 p2 p3 p4 p5 p6
            go_wp2_with fail
            have fd : Fr [] w8 w8.drew := (Fr.refl _ _).drew
            refine wp_region_order [(0, true), (1, true), (2, true), (3, false)] (fun w' => S7 w' B2 m2.c l3 m2.q.length j3 m2.busy l4 m2.rest.length j4 m2.acc m2.w m2.r) (by kernel_rfl) (by kernel_rfl) (fd.keep r2 (by simp)) ?_
            intro OPS HOPS
            have hops := HOPS.out
            try simp only [List.append_eq, List.cons_append, List.nil_append] at hops
            replace HOPS := Lib.hid hops
            clear hops
            refine walkO_take (o := _) (v := ?_) (by rw [HOPS.out]; simp only [List.getElem?_toArray, List.getElem?_cons_succ, List.getElem?_cons_zero]; exact rfl) (Or.inl ⟨rfl, ?_⟩) ?_
            rotate_left
            · (intro w hSw; have hSx := HF8.out _ hSw; (try dsimp only at hSx); clear hSw; go_simp) <;> (with_reducible rfl)
            simp only [Act.put, List.setIfInBounds_toArray, List.set_cons_zero, List.set_cons_succ]
            refine walkO_take (o := _) (v := ?_) (by rw [HOPS.out]; simp only [List.getElem?_toArray, List.getElem?_cons_succ, List.getElem?_cons_zero]; exact rfl) (Or.inl ⟨rfl, ?_⟩) ?_
            rotate_left
            · (intro w hSw; have hSx := HF8.out _ hSw; (try dsimp only at hSx); clear hSw; go_simp) <;> (with_reducible rfl)
            simp only [Act.put, List.setIfInBounds_toArray, List.set_cons_zero, List.set_cons_succ]
            refine walkO_take (o := _) (v := ?_) (by rw [HOPS.out]; simp only [List.getElem?_toArray, List.getElem?_cons_succ, List.getElem?_cons_zero]; exact rfl) (Or.inl ⟨rfl, ?_⟩) ?_
            rotate_left
            · (intro w hSw; have hSx := HF8.out _ hSw; (try dsimp only at hSx); clear hSw; go_simp) <;> (with_reducible rfl)
            simp only [Act.put, List.setIfInBounds_toArray, List.set_cons_zero, List.set_cons_succ]
            refine walkO_call (o := _) (by rw [HOPS.out]; simp only [List.getElem?_toArray, List.getElem?_cons_succ, List.getElem?_cons_zero]; exact rfl) (fun K HK => ?_)
            refine step_store7 rfl 41 (.tmp 7) (.tmp 70) rfl B #[.int .i64 m2.c, .slice l3 m2.q.length j3, .bool m2.busy, .slice l4 m2.rest.length j4, .int .i64 m2.acc, .int .i64 m2.w, .int .i64 m2.r] (by simp [Act.eval]) (by simp [Act.eval]) _ _ (show S7 w8.drew B m.c a3 m.q.length k3 m.busy a4 m.rest.length k4 m.acc m.w m.r from (Fr.refl [] w8).drew.keep r9 (by simp)) (by kernel_rfl) rfl (by simp [Value.oneCell']) ?_
            intro w9 ff qf
            refine HK.out (fun w' => S7 w' B2 m2.c l3 m2.q.length j3 m2.busy l4 m2.rest.length j4 m2.acc m2.w m2.r) _ _ (fun _ h => h) (ff.keep (fd.keep r2 (by simp)) (by have := HB2.out.1; simp; omega)) ?_
            clear HK K
            try simp only [Act.put, List.setIfInBounds_toArray, List.set_cons_zero, List.set_cons_succ]
            refine walkO_done ?_
            clear HOPS OPS
            have g9 := (g8.out.then0 fd).trans ff (U := []) (fun _ h => .inl h) (fun x hx => .inr (by simp at hx; have := HBW.out; omega))
            have a9 := (a8.out.keep fd g8.out.size (by simp)).keep ff (by have := (g8.out.then0 fd).size; exact this) (fun x hx => by simp at hx; have := HBW.out; omega)
            have T9 := Lib.hid (((T8.out.keep0 fd).keep ff (by simp)).less (B' := [B]) (by simp))
            have qR2 := qf
            clear ff fd r9
            go_wp2_with fail
            go_roundw
            case rel => exact ⟨k + 1, m2, b2, l3, j3, l4, j4, by omega, by go_num, rfl, Lib.hid qR2, T9, Lib.hid g9, Lib.hid a9⟩
            case measure => simp [intOf]; omega
    · as_aux_lemma =>
        go_wp2_with fail
        refine (known14 _).mono ?_
        rintro e w99 ⟨rfl, f99⟩
        go_wp2_with fail
        go_ret
        exact ⟨rfl, GR.out.then0 f99⟩
set_option maxHeartbeats 16000000 in
theorem streamPlays_walk {c : Int} {a : Option Addr} {len cap : Nat} (w : World) (hA : ∃ A, Acts14 w w.heap.size a len cap A) :
    Calls Try.prog 5 #[.int .i64 c, .slice a len cap] w fun e w' => e = .returned (.bool true) ∧ Fr [] w w' := by
  obtain ⟨A, hA⟩ := hA
  have HFW := Lib.hid (few14 hA)
  cases hb : fewB14 A with
  | false =>
    rw [hb] at HFW
    clear hA
    go_enter Try.func5, Try.ntmps5
    go_wp2_with fail
    refine HFW.out.mono ?_
    rintro e w' ⟨rfl, rfl⟩
    go_wp2_with fail
    refine (known14 _).mono ?_
    rintro e w9 ⟨rfl, f9⟩
    go_wp2_with fail
    go_ret
    exact ⟨rfl, f9⟩
  | true =>
    by_cases hx : 0 ≤ c ∧ c ≤ 4096
    · exact streamPlays_main w hx.1 hx.2 hA hb
    · rw [hb] at HFW
      have hx' : c < 0 ∨ 4096 < c := by omega
      have HNEW := Lib.hid (st_new_bad c w hx')
      have HRN := Lib.hid fun w1 => r_newbad w1 c hx'
      generalize newM 0 = m0 at *
      clear hx hx' hA
      go_enter Try.func5, Try.ntmps5
      go_wp2_with fail
      refine HFW.out.mono ?_
      rintro e w' ⟨rfl, rfl⟩
      go_wp2_with fail
      refine HNEW.out.mono ?_
      rintro e w1 ⟨rfl, rfl⟩
      go_wp2_with fail
      refine (HRN.out _).mono ?_
      rintro e w2 ⟨v', rfl, f2, hv⟩
      obtain ⟨u1, u2, rfl, hq, hr⟩ := hv
      obtain ⟨a3, k3, rfl, _⟩ := id hq
      obtain ⟨a4, k4, rfl, _⟩ := id hr
      obtain ⟨wz, hwz, fz, qz⟩ : ∃ W, w2.alloc (.cells #[.int .i64 0, .slice none 0 0, .bool false, .slice none 0 0, .int .i64 0, .int .i64 0, .int .i64 0] 41) = W ∧ Fr [] w2 W ∧ S7 W w2.heap.size 0 none 0 0 false none 0 0 0 0 0 := ⟨_, rfl, (Fr.refl _ _).alloc _, newA rfl⟩
      have HQZ := Lib.hid qz
      have hzz := lt_of_heap qz
      clear qz
      clear hq hr HRN HNEW HFW
      go_wp2_with (refine wpl_store rfl 41 _ _ rfl w2.heap.size #[.int .i64 m0.c, .slice a3 m0.q.length k3, .bool m0.busy, .slice a4 m0.rest.length k4, .int .i64 m0.acc, .int .i64 m0.w, .int .i64 m0.r] (by rfl) (by rfl) _ _ HQZ.out (by kernel_rfl) rfl (by simp [Value.oneCell']) ?_)
      intro w3 f3 q3
      have f23 : Fr [] w2 w3 := fz.trans f3 (by simp) (fun x hx => .inr (by simp at hx; omega))
      have HG := Lib.hid (f2.then0 f23)
      clear f2 f3 q3 f23 fz HQZ hzz hwz
      go_wp2_with fail
      refine (known14 _).mono ?_
      rintro e w9 ⟨rfl, f9⟩
      go_wp2_with fail
      go_ret
      exact ⟨rfl, HG.out.then0 f9⟩
end Go.Proofs.Ytdoamelhclnphaa
