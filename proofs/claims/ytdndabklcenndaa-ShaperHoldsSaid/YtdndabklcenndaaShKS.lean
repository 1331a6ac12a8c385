/-
  Package shaper: a shaper of the call's own, through calls; law 41's sends and gets.
-/
import Derived.Test.YtdndabklcenndaaShSend
import Derived.Test.YtdndabklcenndaaShRecv
import Derived.Test.YtdndabklcenndaaLit
import Derived.Lib.SlBytesConst
namespace Go.Proofs.Ytdndabklcenndaa
open Go.RowKit
set_option maxRecDepth 100000

structure KS (w0 w : World) (b k : Nat) (s : SH) : Prop where
  ex : ∃ L, Shp w L b k s ∧ ∀ y ∈ L, w0.heap.size ≤ y
  fr : Fr [] w0 w
section
variable {w0 w w1 w' : World} {b k : Nat} {s s' : SH}
theorem KS.keep0 (h : KS w0 w b k s) (f : Fr [] w w') : KS w0 w' b k s := by
  obtain ⟨⟨L, h1, h2⟩, h3⟩ := h
  exact ⟨⟨L, h1.keep0 f, h2⟩, h3.then0 f⟩
theorem KS.lt (h : KS w0 w b k s) : b < w.heap.size := by
  obtain ⟨⟨L, h1, h2⟩, h3⟩ := h
  exact h1.old _ h1.hb
theorem ks_new {r p u lat lim now : Int} (w0 w : World) (h : ValS r p u lat lim now) (h0 : 0 ≤ now) (h1 : now ≤ 18446744073709551615) (g : Fr [] w0 w) :
    Calls Try.prog 29 #[.int .i64 r, .int .i64 p, .int .i64 u, .int .i64 lat, .int .i64 lim, .int .u64 now] w fun e w' =>
      ∃ b k, e = .returned (.tuple #[.pointer (some ⟨b, 0, none⟩), .int .i64 0]) ∧ KS w0 w' b k (newH r p u lat lim now) :=
  (sh_new_ok w h h0 h1).mono fun e w' ⟨b, he, f, hlt, hs⟩ => ⟨b, _, he, ⟨_, hs, by have := g.size; simp; omega⟩, g.then0 f⟩
theorem ks_len (h : KS w0 w b k s) : Calls Try.prog 32 #[.pointer (some ⟨b, 0, none⟩)] w fun e w' => e = .returned (.int .i64 (totS s.segs)) ∧ KS w0 w' b k s := by
  obtain ⟨L, h1, h2⟩ := h.ex
  exact (sh_len h1).mono fun e w' ⟨he, f⟩ => ⟨he, h.keep0 f⟩
theorem ks_next (h : KS w0 w b k s) : Calls Try.prog 34 #[.pointer (some ⟨b, 0, none⟩)] w fun e w' => e = .returned (.int .u64 (nextH s)) ∧ w = w' := by
  obtain ⟨L, h1, h2⟩ := h.ex
  exact sh_next h1
theorem ks_ready (h : KS w0 w b k s) {now : Int} (hm : mayE s now true = 0) :
    Calls Try.prog 37 #[.pointer (some ⟨b, 0, none⟩), .int .u64 now] w fun e w' => e = .returned (.tuple #[.int .i64 (readyN now s.segs), .int .i64 0]) ∧ KS w0 w' b k s := by
  obtain ⟨L, h1, h2⟩ := h.ex
  exact (sh_ready h1 hm).mono fun e w' ⟨he, f⟩ => ⟨he, h.keep0 f⟩
theorem ks_close (h : KS w0 w b k s) {now : Int} (h0 : 0 ≤ now) (h1 : now ≤ 18446744073709551615) :
    Calls Try.prog 35 #[.pointer (some ⟨b, 0, none⟩), .int .u64 now] w fun e w' => e = .returned (.int .i64 (closeE41 s now)) ∧ KS w0 w' b k (closeH s now) := by
  obtain ⟨L, g1, g2⟩ := h.ex
  exact (sh_close g1 h0 h1).mono fun e w' ⟨he, f, hs⟩ => ⟨he, ⟨L, hs, g2⟩, h.fr.trans f (by simp) (fun x hx => .inr (by
    simp at hx
    rcases hx with rfl | rfl
    · exact g2 _ g1.hb
    · exact g2 _ g1.hk))⟩
theorem ks_send (h : KS w0 w b k s) (f : Fr [] w w1) {now : Int} (h0 : 0 ≤ now) (h1 : now ≤ 18446744073709551615) {pa : Option Addr} {pc : Nat} {data : List UInt8} (hsl : Sl w1 pa (bi data))
    (hpa : ∀ b' o', 0 < data.length → pa = some ⟨b', o', none⟩ → b' < w0.heap.size ∨ w.heap.size ≤ b') (hml : data.length ≤ 100000) (hpc : data.length ≤ pc) :
    Calls Try.prog 30 #[.pointer (some ⟨b, 0, none⟩), .int .u64 now, .slice pa data.length pc] w1 fun e w' =>
      e = .returned (.tuple #[.int .i64 (sendNE s now data.length), .int .i64 (sendE s now data.length)]) ∧ KS w0 w' b k (sendH s now data) := by
  obtain ⟨L, g1, g2⟩ := h.ex
  refine (sh_send (g1.keep0 f) h0 h1 hsl (fun b' o' k0 e hm => ?_) hml hpc).mono fun e w' ⟨he, f2, L', hs, hl⟩ => ⟨he, ⟨L', hs, fun y hy => ?_⟩, (h.fr.then0 f).trans f2 (by simp) (fun x hx => .inr (g2 x hx))⟩
  · rcases hpa b' o' k0 e with h | h
    · have := g2 b' hm; omega
    · have := g1.old b' hm; omega
  · rcases hl y hy with h' | h'
    · exact g2 y h'
    · have := h.fr.size; have := f.size; omega
theorem ks_recv (h : KS w0 w b k s) {now most : Int} (h0 : 0 ≤ now) (h1 : now ≤ 18446744073709551615) :
    Calls Try.prog 31 #[.pointer (some ⟨b, 0, none⟩), .int .u64 now, .int .i64 most] w fun e w' =>
      ∃ v, e = .returned (.tuple #[v, .int .i64 (recvE s now most)]) ∧ KS w0 w' b k (recvS s now most) ∧ Ow w' w.heap.size 5 v ((bi (recvB s now most)).map (Value.int .u8)) := by
  obtain ⟨L, g1, g2⟩ := h.ex
  exact (sh_recv g1 h0 h1).mono fun e w' ⟨v, he, f, hs, ho⟩ => ⟨v, he, ⟨⟨L, hs, g2⟩, h.fr.trans f (by simp) (fun x hx => .inr (g2 x hx))⟩, ho⟩

/-- sends: Send returns a number. -/
theorem sends41 (h : KS w0 w b k s) {now : Int} (h0 : 0 ≤ now) (h1 : now ≤ 18446744073709551615) (l : List UInt8) (hml : l.length ≤ 1000) (he : sendE s now l.length = 0) {n : Int} (hn : sendNE s now l.length = n) (hs : sendH s now l = s') :
    Calls Try.prog 52 #[.pointer (some ⟨b, 0, none⟩), .int .u64 now, .string ⟨l.toArray⟩, .int .i64 n] w fun e w' => e = .returned (.bool true) ∧ KS w0 w' b k s' := by
  subst hs
  have hcv := Lib.run_convert_string_bytes (P := Try.prog) w 9 68 5 ⟨l.toArray⟩ Try.underlying9 Try.underlying68 Try.underlying5
  have f1 := Fr.bytesWorld w 5 ⟨l.toArray⟩
  have s1 := Sl.bytesWorld w 5 l
  have hg : l.length ≤ grownCap w l.length 0 5 := grownCap_ge _ _ _ _
  rw [show (⟨l.toArray⟩ : ByteArray).size = l.length from by simp [ByteArray.size]] at hcv
  generalize Lib.bytesWorld w 5 ⟨l.toArray⟩ = W1 at hcv f1 s1
  generalize grownCap w l.length 0 5 = G at hcv hg
  have HW := Lib.hid (ks_send h f1 h0 h1 (pc := G) s1 (fun b' o' _ e => .inr (by injection e with e; injection e with e1; omega)) (by omega) hg)
  rw [hn, he] at HW
  clear h s1 hg he hn hml f1
  go_enter Try.func52, Try.ntmps52
  go_wp2_with fail
  refine HW.out.mono ?_
  rintro e w2 ⟨rfl, h2⟩
  replace h2 := Lib.hid h2
  clear HW
  go_wp2_with fail
  go_ret
  exact ⟨rfl, h2.out⟩
/-- gets: Receive returns some bytes. -/
theorem gets41 (h : KS w0 w b k s) {now most : Int} (h0 : 0 ≤ now) (h1 : now ≤ 18446744073709551615) (l : List UInt8) (he : recvE s now most = 0) (hb : recvB s now most = l) (hs : recvS s now most = s') :
    Calls Try.prog 53 #[.pointer (some ⟨b, 0, none⟩), .int .u64 now, .int .i64 most, .string ⟨l.toArray⟩] w fun e w' => e = .returned (.bool true) ∧ KS w0 w' b k s' := by
  subst hs hb
  have HW := Lib.hid (ks_recv (most := most) h h0 h1)
  rw [he] at HW
  generalize recvB s now most = l at *
  generalize recvS s now most = s' at *
  clear h he
  go_enter Try.func53, Try.ntmps53
  go_wp2_with fail
  refine HW.out.mono ?_
  rintro e w2 ⟨v, rfl, h2, o2⟩
  obtain ⟨a, cap, rfl, _, _, hs, _⟩ := o2.formB
  have hcv := fun c => conv_sl (cap := c) hs rfl
  replace h2 := Lib.hid h2
  clear HW o2 hs
  go_wp2_with fail
  go_ret
  exact ⟨rfl, h2.out⟩
end
end Go.Proofs.Ytdndabklcenndaa
