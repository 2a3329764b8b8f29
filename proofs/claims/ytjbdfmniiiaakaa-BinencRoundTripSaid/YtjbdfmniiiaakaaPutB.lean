/- PutBytes returns the encoding, for byte strings of at most 1000000 bytes. -/
import Derived.Test.YtjbdfmniiiaakaaPut
namespace Go.Proofs.Ytjbdfmniiiaakaa
set_option linter.unusedVariables false
open Go.RowKit

theorem gives_app {w w' w1 : World} {l m : List UInt8} {A B : Option Addr} {c d n : Nat} (hn : n = l.length + m.length) (ha : Apped w1 w' w.heap.size 5 1 A B l.length c n d (bytes l ++ bytes m)) (hb : Below w.heap.size w w') :
    Gives w (l ++ m) (.returned (.slice B n d)) w' := by
  subst hn
  refine ⟨B, d, by rw [List.length_append], ?_, hb⟩
  rw [List.length_append, bytes_append]
  exact ha.own

set_option maxRecDepth 100000 in
set_option maxHeartbeats 800000 in
theorem putbytes_any (A : Option Addr) (n cap : Nat) (s : List UInt8) (w : World) (hn : n = s.length) (hl : s.length ≤ 1000000) (hA : Lie w w.heap.size A (bytes s)) :
    Calls Try.prog 36 #[.slice A n cap] w (Gives w (Bin.encB s)) := by
  subst hn
  obtain ⟨i0, hi, hz0, hz1, hz2⟩ := info_parts info_b
  have hel := Bin.enc_len s.length
  have HL := hide (bytes_len s)
  go_enter Try.func36, Try.ntmps36
  go_wp2_with fail
  refine Calls.mono (putuint_any s.length _ (by omega)) ?_
  rintro e w1 ⟨A1, c1, rfl, hown1, hb1⟩
  go_wp2_with (at_builtin; refine wpList_app rfl (.tmp 6) (.tmp 7) _ rfl w.heap.size 5 i0 _ 1 1 Try.underlying22 hi hz0 hz1 hz2 rfl (by omega) A1 (Bin.enc s.length).length c1 (bytes (Bin.enc s.length)) rfl hown1 w.heap.size A s.length cap (bytes s) rfl (by rw [HL.out]; omega) (hA.below hb1) (bytes_one s) (by omega) (by unfold maxLen; omega) hb1.size w hb1 ?_; intro A2 c2 w2 HA2 hb2)
  go_ret
  exact gives_app rfl HA2.out hb2
end Go.Proofs.Ytjbdfmniiiaakaa
