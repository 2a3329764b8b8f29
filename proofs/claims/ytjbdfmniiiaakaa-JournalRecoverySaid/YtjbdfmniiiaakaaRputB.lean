/- The reference's PutBytes returns the encoding, for byte strings of at most 1000000 bytes. -/
import Derived.Test.YtjbdfmniiiaakaaPutB
namespace Go.Proofs.Ytjbdfmniiiaakaa
set_option linter.unusedVariables false
open Go.RowKit

set_option maxRecDepth 100000 in
set_option maxHeartbeats 800000 in
theorem refputbytes_any (A : Option Addr) (n cap : Nat) (s : List UInt8) (w : World) (hn : n = s.length) (hl : s.length ≤ 1000000) (hA : Lie w w.heap.size A (bytes s)) :
    Calls Try.prog 65 #[.slice A n cap] w (Gives w (Bin.encB s)) := by
  subst hn
  obtain ⟨i0, hi, hz0, hz1, hz2⟩ := info_parts info_b
  have hel := Bin.enc_len s.length
  have HL := hide (bytes_len s)
  go_enter Try.func65, Try.ntmps65
  go_wp2_with fail
  refine Calls.mono (refputuint_any s.length _ (by omega)) ?_
  rintro e w1 ⟨A1, c1, rfl, hown1, hb1⟩
  go_wp2_with (at_builtin; refine wpList_app rfl (.tmp 6) (.tmp 7) _ rfl w.heap.size 5 i0 _ 1 1 Try.underlying22 hi hz0 hz1 hz2 rfl (by omega) A1 (Bin.enc s.length).length c1 (bytes (Bin.enc s.length)) rfl hown1 w.heap.size A s.length cap (bytes s) rfl (by rw [HL.out]; omega) (hA.below hb1) (bytes_one s) (by omega) (by unfold maxLen; omega) hb1.size w hb1 ?_; intro A2 c2 w2 HA2 hb2)
  go_ret
  exact gives_app rfl HA2.out hb2
end Go.Proofs.Ytjbdfmniiiaakaa
