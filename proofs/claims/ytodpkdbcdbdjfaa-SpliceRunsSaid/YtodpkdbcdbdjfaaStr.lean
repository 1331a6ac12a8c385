/-
  Strings as lists of bytes, under one name that the walk does not open.
-/
import Derived.Test.YtodpkdbcdbdjfaaByteArg
namespace Go.Proofs.Ytodpkdbcdbdjfaa
open Go.RowKit

def st (l : List UInt8) : ByteArray := ⟨l.toArray⟩
@[go_sem] theorem st_size (l : List UInt8) : (st l).size = l.length := by simp [st, ByteArray.size]
@[go_sem] theorem st_append (x y : List UInt8) : st x ++ st y = st (x ++ y) := str_append x y
@[go_sem] theorem st_extract (x : List UInt8) (i j : Nat) : (st x).extract i j = st ((x.take j).drop i) := str_extract x i j
theorem st_inj {x y : List UInt8} (h : st x = st y) : x = y := by
  have := congrArg (fun b : ByteArray => b.data.toList) h
  simpa [st] using this
@[go_sem] theorem st_toList (l : List UInt8) : (st l).toList = l := ByteArray.toList_mk l
theorem st_of (s : ByteArray) : ∃ l, s = st l := ⟨s.data.toList, by apply ByteArray.ext; simp [st]⟩
theorem st_nil : st [] = ByteArray.empty := rfl

/-- string(b). -/
theorem conv_st {w : World} {a : Option Addr} {l : List UInt8} {len cap : Nat} (h : Sl w a (bi l)) (hl : len = l.length) :
    (convert 22 9 (.slice a len cap)).run Try.prog w = .ok (.string (st l)) w := conv_sl h hl
theorem conv_stN {w : World} {a : Option Addr} {l : List UInt8} {len : Nat} (h : Sl w a (bi l)) (hl : len = l.length) (N cap : Nat) :
    (convert 22 9 (.slice a len cap)).run Try.prog (w.drewN N) = .ok (.string (st l)) (w.drewN N) := conv_sl (w := w.drewN N) h hl
end Go.Proofs.Ytodpkdbcdbdjfaa
