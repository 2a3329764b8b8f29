/- The reference's Append returns the string with its checksum behind it, for byte strings of at most 1000000 bytes. -/
import Derived.Test.YtjbdfmniiiaakaaVer
import Derived.Test.YtjbdfmniiiaakaaLaw
namespace Go.Proofs.Ytjbdfmniiiaakaa
set_option linter.unusedVariables false
open Go.RowKit

set_option maxRecDepth 100000 in
set_option maxHeartbeats 800000 in
theorem refappend_any (A : Option Addr) (n cap : Nat) (l : List UInt8) (w : World) (hn : n = l.length) (hl : l.length ≤ 1000000) (hA : Lie w w.heap.size A (bytes l)) :
    Calls Try.prog 66 #[.slice A n cap] w fun e w' => ∃ B c, e = .returned (.slice B (l.length + 4) c) ∧
      w'.ownsRow w.heap.size 5 1 (.slice B (l.length + 4) c) (l.length + 4) (bytes (Ent.sealed l)) ∧ Below w.heap.size w w' := by
  subst hn
  obtain ⟨s0, s1, s2, s3, hs⟩ := tail4_four (Crc.sum l)
  have hsc := seal_cells (Crc.sum l) (Crc.sum_lt l)
  have hlt := Crc.sum_lt l
  obtain ⟨i0, hi, hz0, hz1, hz2⟩ := info_parts info_u8
  have HS := hide hsc
  have HL := hide (bytes_len l)
  clear hs hsc
  go_enter Try.func66, Try.ntmps66
  go_wp2_with (first
    | (go_at_call 75; refine (refsum_any A _ cap l _ rfl (by omega) hA).mono ?_; rintro e w1 ⟨rfl, rfl⟩)
    | (at_builtin; refine wpList_app rfl (.tmp 7) (.tmp 8) _ rfl w.heap.size 5 i0 _ 1 1 Try.underlying22 hi hz0 hz1 hz2 rfl (by omega) none 0 0 [] rfl own_nil w.heap.size A l.length cap (bytes l) rfl (by rw [HL.out]; omega) hA (bytes_one l) (by omega) (by unfold maxLen; omega) (Nat.le_refl _) w (Below.refl _ _) ?_; intro A1 c1 w1 HA1 hb1)
    | (at_builtin; (refine wpList_app rfl (.tmp 10) (.tmp 22) _ rfl w.heap.size 5 i0 _ 1 1 Try.underlying22 hi hz0 hz1 hz2 rfl (by omega) A1 l.length c1 _ (by simp [Act.eval]) (by simpa using HA1.out.own.alloc _) _ _ 4 4 _ rfl rfl (Lie.new _ _ _) ?c1 (by omega) (by unfold maxLen; omega) ?c2 w ?c3 ?c4)))
  case c1 =>
    intro u hu
    simp at hu
    rcases hu with rfl | rfl | rfl | rfl <;> rfl
  case c2 => have := hb1.size; simp; omega
  case c3 => exact hb1.alloc hb1.size _
  case c4 =>
    intro A2 c2 w2 HA2 hb2
    go_wp2_with fail
    go_ret
    refine ⟨A2, c2, rfl, ?_, hb2⟩
    have e : bytes (Ent.sealed l) = bytes l ++ [Value.int .u8 ((Crc.sum l : Int) / 16777216), Value.int .u8 ((Crc.sum l : Int) / 65536 % 256), Value.int .u8 ((Crc.sum l : Int) / 256 % 256), Value.int .u8 ((Crc.sum l : Int) % 256)] := by
      unfold Ent.sealed
      rw [bytes_append]
      congr 1
      exact congrArg Array.toList HS.out
    rw [e]
    exact HA2.out.own
end Go.Proofs.Ytjbdfmniiiaakaa
