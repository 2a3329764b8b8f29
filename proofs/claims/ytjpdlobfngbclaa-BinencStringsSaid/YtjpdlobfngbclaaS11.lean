/- The walk of the law BinencStrings, for every input. -/
import Derived.Test.YtjpdlobfngbclaaEx11
import Derived.Test.YtjpdlobfngbclaaRputI
import Derived.Deep.RegionWith
namespace Go.Proofs.Ytjpdlobfngbclaa
set_option linter.unusedVariables false
open Go.RowKit

set_option maxRecDepth 100000 in
set_option maxHeartbeats 3200000 in
theorem strings_main (A B : Option Addr) (ca cb : Nat) (s : List UInt8) (l : List Int) (w : World) (hs : s.length ≤ 4096) (hl : l.length ≤ 200) (hf : ∀ x ∈ l, Fits x) (hA : Lie w w.heap.size A (bytes s)) (hB : Lie w w.heap.size B (ints l)) :
    Calls Try.prog 13 #[.slice A s.length ca, .slice B l.length cb] w fun e w' => e = .returned (.bool true) ∧ Below w.heap.size w w' := by
  have b0 : Hid (Below w.heap.size w w.drew) := (Below.refl _ _).drew
  have q1 := hide (fun (w1 : World) (hb : Below w.heap.size w w1) => putbytes_any A _ ca s w1 rfl (by omega) (lie_on hA hb))
  have q2 := hide (fun (w1 : World) (hb : Below w.heap.size w w1) => refputbytes_any A _ ca s w1 rfl (by omega) (lie_on hA hb))
  have q3 := hide (fun (w1 : World) (hb : Below w.heap.size w w1) => putints_any B _ cb l w1 rfl (by omega) hf (lie_on hB hb))
  have q4 := hide (fun (w1 : World) (hb : Below w.heap.size w w1) => refputints_any B _ cb l w1 rfl (by omega) hf (lie_on hB hb))
  clear hA hB hf
  go_enter Try.func13, Try.ntmps13
  go_wp2_with fail
  go_region_with (first
    | (go_at_call 40; refine Calls.mono (q1.out _ b0.out) ?_; intro e w1 h; obtain ⟨A1, c1, rfl, k1, l1, b1⟩ := gives_str h rfl _ rfl; have B1 := hide (chain b0.out b1); have L1 := hide l1; clear h l1 b1)
    | (go_at_call 41; refine Calls.mono (q2.out _ B1.out) ?_; intro e w2 h; obtain ⟨A2, c2, rfl, k2, l2, b2⟩ := gives_str h rfl _ rfl; have k1' := str_of (c := c1) (lie_on L1.out b2) rfl; have B2 := hide (chain B1.out b2); clear h l2 b2 L1)
    | (go_at_call 42; refine Calls.mono (q3.out _ B2.out) ?_; intro e w3 h; obtain ⟨A3, c3, rfl, k3, l3, b3⟩ := gives_str h rfl _ rfl; have B3 := hide (chain B2.out b3); have L3 := hide l3; clear h l3 b3 k1 k1' k2)
    | (go_at_call 43; refine Calls.mono (q4.out _ B3.out) ?_; intro e w4 h; obtain ⟨A4, c4, rfl, k4, l4, b4⟩ := gives_str h rfl _ rfl; have k3' := str_of (c := c3) (lie_on L3.out b4) rfl; have B4 := hide (chain B3.out b4); clear h l4 b4 L3)
    | (go_at_call 39; refine (example11_any _).mono ?_; rintro e w7 ⟨rfl, b7⟩; have B7 := hide (chain B4.out b7); clear b7 k3 k3' k4))
  all_goals (go_wp2_with fail; go_ret; exact ⟨rfl, B7.out⟩)

set_option maxRecDepth 100000 in
set_option maxHeartbeats 800000 in
theorem walk_BinencStrings (a0 : Option Addr) (len0 cap0 : Nat) (z0 : List Int) (a1 : Option Addr) (len1 cap1 : Nat) (z1 : List Int) (w : World) (w0 : IsRow .u8 w a0 len0 cap0 z0) (w1 : IsRow .i64 w a1 len1 cap1 z1) :
    Calls Try.prog 13 #[.slice a0 len0 cap0, .slice a1 len1 cap1] w fun e w' => e = .returned (.bool true) ∧ Below w.heap.size w w' := by
  obtain ⟨s, rfl, _, hA⟩ := row_bytes w0
  obtain ⟨l, rfl, _, hf, hB⟩ := row_ints w1
  clear w0 w1
  by_cases h1 : 4096 < s.length
  · go_enter Try.func13, Try.ntmps13
    go_wp2_with (go_at_call 39; refine (example11_any _).mono ?_; rintro e w1 ⟨rfl, hb1⟩)
    go_ret
    exact ⟨rfl, hb1⟩
  · by_cases h2 : 200 < l.length
    · go_enter Try.func13, Try.ntmps13
      go_wp2_with (go_at_call 39; refine (example11_any _).mono ?_; rintro e w1 ⟨rfl, hb1⟩)
      go_ret
      exact ⟨rfl, hb1⟩
    · exact strings_main a0 a1 cap0 cap1 s l w (by omega) (by omega) hf hA hB
end Go.Proofs.Ytjpdlobfngbclaa
