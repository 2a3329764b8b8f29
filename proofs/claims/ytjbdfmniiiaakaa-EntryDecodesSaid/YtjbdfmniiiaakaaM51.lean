/- The walks of the laws EntryDecodes, EntryDetects and EntryRoundTrip, for every input. -/
import Derived.Test.YtjbdfmniiiaakaaL51
import Derived.Test.YtjbdfmniiiaakaaRdec
import Derived.Test.YtjbdfmniiiaakaaFlip
namespace Go.Proofs.Ytjbdfmniiiaakaa
set_option linter.unusedVariables false
open Go.RowKit
open Ent (E)

set_option maxRecDepth 100000 in
set_option maxHeartbeats 3200000 in
theorem walk_EntryDecodes (a0 : Option Addr) (len0 cap0 : Nat) (z0 : List Int) (a1 : Int) (w : World) (w0 : IsRow .u8 w a0 len0 cap0 z0) (w1 : (Lit.int .i64 a1).wf = true) :
    Calls Try.prog 9 #[.slice a0 len0 cap0, .int .i64 a1] w fun e w' => e = .returned (.bool true) ∧ Below w.heap.size w w' := by
  obtain ⟨l, rfl, hcap, hA⟩ := row_bytes w0
  clear w0 w1
  by_cases h1 : 131072 < l.length
  · go_enter Try.func9, Try.ntmps9
    go_wp2_with (go_at_call 41; refine (example51_any _).mono ?_; rintro e w1 ⟨rfl, hb1⟩)
    go_ret
    exact ⟨rfl, hb1⟩
  have HD := hide (decode_any a0 _ cap0 l a1 w rfl (by omega) hcap hA)
  have HR := hide (fun (W : World) (hb : Below w.heap.size w W) => refdecode_any a0 _ cap0 l a1 W rfl (by omega) hcap (hA.on hb))
  generalize Ent.dE l a1 = G at HD HR
  obtain ⟨⟨k, t, s⟩, x, er⟩ := G
  unfold GotD ev at HD HR
  simp only at HD HR
  clear hA
  go_enter Try.func9, Try.ntmps9
  go_wp2_with fail
  refine Calls.mono HD.out ?_
  rintro e w1 ⟨rfl, b1⟩
  have K1 := hide (Kp.new w1 36 #[.int .i64 k, .int .i64 t, .string s])
  have g1 : w1.heap.size < (w1.alloc (.cells #[.int .i64 k, .int .i64 t, .string s] 36)).heap.size := by simp
  go_upto_region 4 with fail
  have B1 := hide (chain b1 K1.out.1)
  clear b1
  generalize w1.alloc (.cells #[.int .i64 k, .int .i64 t, .string s] 36) = wa at *
  go_wp2_with fail
  refine Calls.mono (HR.out _ B1.out) ?_
  rintro e w2 ⟨rfl, b2⟩
  have K2 := hide (K1.out.2.below b2 g1)
  have B2 := hide (chain B1.out b2)
  have K3 := hide (Blk.new w2 36 #[.int .i64 k, .int .i64 t, .string s])
  go_upto_region 5 with fail
  have K4 := hide (K2.out.alloc (.cells #[.int .i64 k, .int .i64 t, .string s] 36))
  have B3 := hide (chain B2.out (below_new w2 (.cells #[.int .i64 k, .int .i64 t, .string s] 36)))
  clear K2 B2 b2 K1 g1
  generalize w2.alloc (.cells #[.int .i64 k, .int .i64 t, .string s] 36) = wb at *
  obtain ⟨c0, c1, c2⟩ := ev_cells K3.out
  obtain ⟨d0, d1, d2⟩ := ev_cells K4.out
  go_wp2_with fail
  refine Calls.mono (example51_any _) ?_
  rintro e w4 ⟨rfl, b4⟩
  go_wp2_with fail
  go_ret
  exact ⟨rfl, chain B3.out b4⟩
end Go.Proofs.Ytjbdfmniiiaakaa
