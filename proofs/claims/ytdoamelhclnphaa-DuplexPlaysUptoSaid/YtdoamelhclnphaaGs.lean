/-
  Short names for lemmas on lists and arrays.
-/
import Derived.Test.YtdoamelhclnphaaBase
namespace Go.Proofs.Ytdoamelhclnphaa
universe u
variable {α : Type u}
theorem gA {xs : List α} {i : Nat} : xs.toArray[i]? = xs[i]? := List.getElem?_toArray
theorem gB {a : α} {l : List α} {i : Nat} : (a :: l)[i + 1]? = l[i]? := List.getElem?_cons_succ
theorem gC {a : α} {l : List α} : (a :: l)[0]? = some a := List.getElem?_cons_zero
theorem gD {xs : List α} {i : Nat} {a : α} : xs.toArray.setIfInBounds i a = (xs.set i a).toArray := List.setIfInBounds_toArray ..
theorem gE {x a : α} {xs : List α} : (x :: xs).set 0 a = a :: xs := List.set_cons_zero
theorem gF {x a : α} {xs : List α} {n : Nat} : (x :: xs).set (n + 1) a = x :: xs.set n a := List.set_cons_succ
end Go.Proofs.Ytdoamelhclnphaa
