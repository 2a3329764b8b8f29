/- The walk of the law BinencUints, for every input. -/
import Derived.Test.YtjpdlobfngbclaaEx11
import Derived.Test.YtjpdlobfngbclaaRputI
import Derived.Deep.RegionWith
namespace Go.Proofs.Ytjpdlobfngbclaa
set_option linter.unusedVariables false
open Go.RowKit

set_option maxRecDepth 100000 in
set_option maxHeartbeats 800000 in
theorem walk_BinencUints (a0 : Option Addr) (len0 cap0 : Nat) (z0 : List Int) (a1 : Int) (w : World) (w0 : IsRow .u8 w a0 len0 cap0 z0) (w1 : (Lit.int .i64 a1).wf = true) :
    Calls Try.prog 14 #[.slice a0 len0 cap0, .int .i64 a1] w fun e w' => e = .returned (.bool true) ∧ Below w.heap.size w w' := by
  obtain ⟨l, rfl, _, hA⟩ := row_bytes w0
  clear w0 w1
  by_cases hl : 4096 < l.length
  · go_enter Try.func14, Try.ntmps14
    go_wp2_with (go_at_call 39; refine (example11_any _).mono ?_; rintro e w1 ⟨rfl, hb1⟩)
    go_ret
    exact ⟨rfl, hb1⟩
  · have h1 := uint_any a0 _ cap0 l a1 w rfl (by omega) hA
    have h2 := refuint_any a0 _ cap0 l a1 w rfl (by omega) hA
    generalize Bin.dU l a1 = g at h1 h2
    obtain ⟨u, next, er⟩ := g
    go_enter Try.func14, Try.ntmps14
    go_wp2_with fail
    refine Calls.mono h1 ?_
    rintro e w1 ⟨rfl, rfl⟩
    go_wp2_with fail
    refine Calls.mono h2 ?_
    rintro e w1 ⟨rfl, rfl⟩
    go_wp2_with (go_at_call 39; refine (example11_any _).mono ?_; rintro e w1 ⟨rfl, hb1⟩)
    go_ret
    exact ⟨rfl, hb1⟩
end Go.Proofs.Ytjpdlobfngbclaa
