/- The walk of the law BinencPuts, for every input. -/
import Derived.Test.YtjpdlobfngbclaaEx11
import Derived.Test.YtjpdlobfngbclaaRputI
import Derived.Deep.RegionWith
namespace Go.Proofs.Ytjpdlobfngbclaa
set_option linter.unusedVariables false
open Go.RowKit

set_option maxRecDepth 100000 in
set_option maxHeartbeats 3200000 in
theorem walk_BinencPuts (a0 : Int) (a1 : Int) (a2 : Bool) (w : World) (w0 : (Lit.int .u64 a0).wf = true) (w1 : (Lit.int .i64 a1).wf = true) :
    Calls Try.prog 12 #[.int .u64 a0, .int .i64 a1, .bool a2] w fun e w' => e = .returned (.bool true) ∧ Below w.heap.size w w' := by
  obtain ⟨u, rfl, hu⟩ := u64_wf w0
  have hf := hide (fits_wf w1)
  clear w0 w1
  go_enter Try.func12, Try.ntmps12
  go_wp2_with fail
  have b0 : Hid (Below w.heap.size w w.drew) := (Below.refl _ _).drew
  go_region_with (first
    | (go_at_call 33; refine Calls.mono (putuint_any u _ hu) ?_; intro e w1 h; obtain ⟨A1, c1, rfl, k1, l1, b1⟩ := gives_str h rfl _ rfl; have B1 := hide (chain b0.out b1); have L1 := hide l1; clear h l1 b1)
    | (go_at_call 34; refine Calls.mono (refputuint_any u _ hu) ?_; intro e w2 h; obtain ⟨A2, c2, rfl, k2, l2, b2⟩ := gives_str h rfl _ rfl; have k1' := str_of (c := c1) (lie_on L1.out b2) rfl; have B2 := hide (chain B1.out b2); clear h l2 b2 L1)
    | (go_at_call 35; refine Calls.mono (putint_any a1 _ hf.out) ?_; intro e w3 h; obtain ⟨A3, c3, rfl, k3, l3, b3⟩ := gives_str h rfl _ rfl; have B3 := hide (chain B2.out b3); have L3 := hide l3; clear h l3 b3 k1 k1' k2)
    | (go_at_call 36; refine Calls.mono (refputint_any a1 _ hf.out) ?_; intro e w4 h; obtain ⟨A4, c4, rfl, k4, l4, b4⟩ := gives_str h rfl _ rfl; have k3' := str_of (c := c3) (lie_on L3.out b4) rfl; have B4 := hide (chain B3.out b4); clear h l4 b4 L3)
    | (go_at_call 37; refine Calls.mono (putbool_any a2 _) ?_; intro e w5 h; obtain ⟨A5, c5, rfl, k5, l5, b5⟩ := gives_str h rfl _ rfl; have B5 := hide (chain B4.out b5); have L5 := hide l5; clear h l5 b5 k3 k3' k4)
    | (go_at_call 38; refine Calls.mono (refputbool_any a2 _) ?_; intro e w6 h; obtain ⟨A6, c6, rfl, k6, l6, b6⟩ := gives_str h rfl _ rfl; have k5' := str_of (c := c5) (lie_on L5.out b6) rfl; have B6 := hide (chain B5.out b6); clear h l6 b6 L5)
    | (go_at_call 39; refine (example11_any _).mono ?_; rintro e w7 ⟨rfl, b7⟩; have B7 := hide (chain B6.out b7); clear b7 k5 k5' k6))
  all_goals (go_wp2_with fail; go_ret; exact ⟨rfl, B7.out⟩)
end Go.Proofs.Ytjpdlobfngbclaa
