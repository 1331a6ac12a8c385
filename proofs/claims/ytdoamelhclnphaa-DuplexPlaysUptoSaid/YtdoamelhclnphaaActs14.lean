/-
  Parts and calls as arguments: a slice of slices of bytes, a slice of calls that hold such; no slice is longer than the reach.
-/
import Derived.Test.YtdoamelhclnphaaStB
import Derived.Test.YtdoamelhclnphaaOpenF
import Derived.SizedLaws
namespace Go.Proofs.Ytdoamelhclnphaa
open Go.ChangeShapes Go.WideShapes Go.Deep Go.RowKit
set_option maxRecDepth 100000

section
variable {H : Type} {P : Program}
end
section
variable {H : Type} {enc : TypeId × Value → H} {w : World} {base : Nat}
/-- A slice of slices of bytes. -/
structure PArg (w : World) (M : Nat) (a : Option Addr) (len cap : Nat) (P : Parts) : Prop where
  len_eq : len = P.length
  le : len ≤ cap
  cap_le : cap ≤ maxLen
  at_ : PartsAt w (fun b => b < M) a P
  size : ∀ p ∈ P, p.length ≤ reachBytes
theorem PArg.keep {w w' : World} {M : Nat} {a : Option Addr} {len cap : Nat} {P : Parts} (h : PArg w M a len cap P) {S : List Nat} (hf : Fr S w w') (hS : ∀ x ∈ S, M ≤ x) : PArg w' M a len cap P :=
  ⟨h.len_eq, h.le, h.cap_le, h.at_.keep hf (fun x hx hn => by have := hS x hx; omega), h.size⟩
theorem one_of {cs : List Value} (h : cs.length = 1) : ∃ v, cs = [v] := by
  match cs, h with
  | [v], _ => exact ⟨v, rfl⟩
end

structure A14 where
  what : Int
  ps : Parts
  n : Int
/-- A slice of calls. -/
structure Acts14 (w : World) (M : Nat) (a : Option Addr) (len cap : Nat) (A : List A14) : Prop where
  len_eq : len = A.length
  cap_le : len ≤ maxLen
  at_ : ∀ i (hi : i < A.length), ∃ b o pa pl pc, a = some (⟨b, o, none⟩ : Addr) ∧ b < M ∧ b < w.heap.size ∧ w.cell? ⟨b, o + i * 3, none⟩ = some (.int .i64 A[i].what) ∧ w.cell? ⟨b, o + i * 3 + 1, none⟩ = some (.slice pa pl pc) ∧ w.cell? ⟨b, o + i * 3 + 2, none⟩ = some (.int .i64 A[i].n) ∧ PArg w M pa pl pc A[i].ps ∧
    (-9223372036854775808 ≤ A[i].what ∧ A[i].what ≤ 9223372036854775807) ∧ (-9223372036854775808 ≤ A[i].n ∧ A[i].n ≤ 9223372036854775807)
theorem Acts14.keep {w w' : World} {M : Nat} {a : Option Addr} {len cap : Nat} {A : List A14} (h : Acts14 w M a len cap A) {S : List Nat} (hf : Fr S w w') (hM : M ≤ w.heap.size) (hS : ∀ x ∈ S, M ≤ x) : Acts14 w' M a len cap A :=
  ⟨h.len_eq, h.cap_le, fun i hi => by
    obtain ⟨b, o, pa, pl, pc, e, h1, h2, c0, c1, c2, hs, x⟩ := h.at_ i hi
    have hn : b ∉ S := fun hm => by have := hS b hm; omega
    have hk : ∀ k, w'.cell? ⟨b, k, none⟩ = w.cell? ⟨b, k, none⟩ := fun k => World.cell?_of_block (w := w) (hf.block b h2 hn)
    exact ⟨b, o, pa, pl, pc, e, h1, Nat.lt_of_lt_of_le h2 hf.size, (hk _).trans c0, (hk _).trans c1, (hk _).trans c2, hs.keep hf hS, x⟩⟩
section
variable {H : Type} {enc : TypeId × Value → H} {w : World} {base : Nat}
end
end Go.Proofs.Ytdoamelhclnphaa
