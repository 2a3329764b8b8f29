/- The walks of the laws ChecksumSums, ChecksumUpdates and ChecksumContinues, for every input. -/
import Derived.Test.YtjpdlobfngbclaaEx10
import Derived.Test.YtjpdlobfngbclaaRow
namespace Go.Proofs.Ytjpdlobfngbclaa
set_option linter.unusedVariables false
open Go.RowKit

/-- what a law's walk comes to. -/
def LawOk (w : World) (e : Ending) (w' : World) : Prop := e = .returned (.bool true) ∧ Below w.heap.size w w'

set_option maxRecDepth 100000 in
set_option maxHeartbeats 800000 in
theorem walk_ChecksumSums (a0 : Option Addr) (len0 cap0 : Nat) (z0 : List Int) (w : World) (w0 : IsRow .u8 w a0 len0 cap0 z0) :
    Calls Try.prog 3 #[.slice a0 len0 cap0] w fun e w' => e = .returned (.bool true) ∧ Below w.heap.size w w' := by
  obtain ⟨l, rfl, _, hA⟩ := row_bytes w0
  by_cases hl : 16384 < l.length
  · go_enter Try.func3, Try.ntmps3
    go_wp2_with (go_at_call 15; refine (example10_any _).mono ?_; rintro e w1 ⟨rfl, hb1⟩)
    go_ret
    exact ⟨rfl, hb1⟩
  · go_enter Try.func3, Try.ntmps3
    go_wp2_with (first
      | (go_at_call 16; refine (crc_any _ _ _ l _ rfl (by omega) hA).mono ?_; rintro e w1 ⟨rfl, hb1⟩)
      | (go_at_call 17; refine (refsum_any _ _ _ l _ rfl (by omega) ((hA.below hb1).more hb1.size)).mono ?_; rintro e w2 ⟨rfl, rfl⟩)
      | (go_at_call 15; refine (example10_any _).mono ?_; rintro e w3 ⟨rfl, hb3⟩))
    go_ret
    exact ⟨rfl, chain hb1 hb3⟩

set_option maxRecDepth 100000 in
set_option maxHeartbeats 800000 in
theorem walk_ChecksumUpdates (a0 : Int) (a1 : Option Addr) (len1 cap1 : Nat) (z1 : List Int) (w : World) (w0 : (Lit.int .u32 a0).wf = true) (w1 : IsRow .u8 w a1 len1 cap1 z1) :
    Calls Try.prog 4 #[.int .u32 a0, .slice a1 len1 cap1] w fun e w' => e = .returned (.bool true) ∧ Below w.heap.size w w' := by
  obtain ⟨l, rfl, _, hA⟩ := row_bytes w1
  obtain ⟨c, rfl, hc⟩ := u32_wf w0
  clear w0 w1
  by_cases hl : 16384 < l.length
  · go_enter Try.func4, Try.ntmps4
    go_wp2_with (go_at_call 15; refine (example10_any _).mono ?_; rintro e w1 ⟨rfl, hb1⟩)
    go_ret
    exact ⟨rfl, hb1⟩
  · go_enter Try.func4, Try.ntmps4
    go_wp2_with (first
      | (go_at_call 18; refine (update_any c _ _ _ l _ rfl hc (by omega) hA).mono ?_; rintro e w1 ⟨rfl, hb1⟩)
      | (go_at_call 19; refine (refupd_any c _ _ _ l _ rfl hc (by omega) ((hA.below hb1).more hb1.size)).mono ?_; rintro e w2 ⟨rfl, rfl⟩)
      | (go_at_call 15; refine (example10_any _).mono ?_; rintro e w3 ⟨rfl, hb3⟩))
    go_ret
    exact ⟨rfl, chain hb1 hb3⟩

set_option maxRecDepth 100000 in
set_option maxHeartbeats 800000 in
theorem walk_ChecksumContinues (a0 : Option Addr) (len0 cap0 : Nat) (z0 : List Int) (a1 : Option Addr) (len1 cap1 : Nat) (z1 : List Int) (w : World) (w0 : IsRow .u8 w a0 len0 cap0 z0) (w1 : IsRow .u8 w a1 len1 cap1 z1) :
    Calls Try.prog 5 #[.slice a0 len0 cap0, .slice a1 len1 cap1] w fun e w' => e = .returned (.bool true) ∧ Below w.heap.size w w' := by
  obtain ⟨a, rfl, _, hA⟩ := row_bytes w0
  obtain ⟨b, rfl, _, hB⟩ := row_bytes w1
  clear w0 w1
  by_cases hl : 4096 < a.length ∨ 4096 < b.length
  · by_cases hla : 4096 < a.length
    · go_enter Try.func5, Try.ntmps5
      go_wp2_with (go_at_call 15; refine (example10_any _).mono ?_; rintro e w1 ⟨rfl, hb1⟩)
      go_ret
      exact ⟨rfl, hb1⟩
    · have hlb : 4096 < b.length := by omega
      clear hl
      go_enter Try.func5, Try.ntmps5
      go_wp2_with (go_at_call 15; refine (example10_any _).mono ?_; rintro e w1 ⟨rfl, hb1⟩)
      go_ret
      exact ⟨rfl, hb1⟩
  · have hla : ¬ 4096 < a.length := by omega
    have hlb : ¬ 4096 < b.length := by omega
    clear hl
    obtain ⟨i0, hi, hz0, hz1, hz2⟩ := info_parts info_u8
    have HLa := hide (bytes_len a)
    have HLb := hide (bytes_len b)
    have HE := hide (Crc.upd_append 0 a b)
    go_enter Try.func5, Try.ntmps5
    go_wp2_with (first
      | (at_builtin; refine wpList_app rfl (.tmp 15) (.tmp 16) _ rfl w.heap.size 5 i0 _ 1 1 Try.underlying22 hi hz0 hz1 hz2 rfl (by omega) none 0 0 [] rfl own_nil w.heap.size a0 a.length cap0 (bytes a) rfl (by rw [HLa.out]; omega) hA (bytes_one a) (by omega) (by unfold maxLen; omega) (Nat.le_refl _) w (Below.refl _ _) ?_; intro A1 c1 w1 HA1 hb1)
      | (at_builtin; refine wpList_app rfl (.tmp 17) (.tmp 18) _ rfl w.heap.size 5 i0 _ 1 1 Try.underlying22 hi hz0 hz1 hz2 rfl (by omega) A1 a.length c1 (bytes a) (by simp [Act.eval]) (by simpa using HA1.out.own) w.heap.size a1 b.length cap1 (bytes b) rfl (by rw [HLb.out]; omega) (hB.below hb1) (bytes_one b) (by omega) (by unfold maxLen; omega) hb1.size w hb1 ?_; intro A2 c2 w2 HA2 hb2)
      | fail)
    have ho2 : w2.ownsRow w.heap.size 5 1 (.slice A2 (a.length + b.length) c2) (a.length + b.length) (bytes (a ++ b)) := by rw [bytes_append]; exact HA2.out.own
    have hl2 := Lie.of_own ho2
    refine (crc_any _ _ _ a _ rfl (by omega) ((hA.below hb2).more hb2.size)).mono ?_
    rintro e w3 ⟨rfl, hb3⟩
    have hb23 := chain hb2 hb3
    go_wp2_with fail
    refine (update_any (Crc.sum a) _ _ _ b _ rfl (Crc.sum_lt a) (by omega) ((hB.below hb23).more hb23.size)).mono ?_
    rintro e w4 ⟨rfl, hb4⟩
    have hb24 := chain hb23 hb4
    have hl4 := (hl2.below (hb3.trans (hb4.mono hb3.size))).more (Nat.le_trans hb3.size hb4.size)
    go_wp2_with fail
    refine (crc_any _ _ _ (a ++ b) _ (by simp) (by simp; omega) hl4).mono ?_
    rintro e w5 ⟨rfl, hb5⟩
    have hs : Crc.sum (a ++ b) = Crc.upd (Crc.sum a) b := HE.out
    rw [hs]
    clear hs
    go_wp2_with (go_at_call 15; refine (example10_any _).mono ?_; rintro e w6 ⟨rfl, hb6⟩)
    go_ret
    exact ⟨rfl, chain (chain hb24 hb5) hb6⟩
end Go.Proofs.Ytjpdlobfngbclaa
