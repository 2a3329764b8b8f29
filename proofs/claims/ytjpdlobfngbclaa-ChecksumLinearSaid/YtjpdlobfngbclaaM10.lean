/- The walks of the laws ChecksumAppends and ChecksumVerifies, for every input. -/
import Derived.Test.YtjpdlobfngbclaaL10
namespace Go.Proofs.Ytjpdlobfngbclaa
set_option linter.unusedVariables false
open Go.RowKit

set_option maxRecDepth 100000 in
set_option maxHeartbeats 800000 in
theorem walk_ChecksumAppends (a0 : Option Addr) (len0 cap0 : Nat) (z0 : List Int) (w : World) (w0 : IsRow .u8 w a0 len0 cap0 z0) :
    Calls Try.prog 6 #[.slice a0 len0 cap0] w fun e w' => e = .returned (.bool true) ∧ Below w.heap.size w w' := by
  obtain ⟨l, rfl, _, hA⟩ := row_bytes w0
  clear w0
  by_cases hl : 16384 < l.length
  · go_enter Try.func6, Try.ntmps6
    go_wp2_with (go_at_call 15; refine (example10_any _).mono ?_; rintro e w1 ⟨rfl, hb1⟩)
    go_ret
    exact ⟨rfl, hb1⟩
  · have HS := hide (Ent.sealed_len l)
    have HV := hide (Ent.verify_sealed l)
    go_enter Try.func6, Try.ntmps6
    go_wp2_with fail
    refine (append_any _ _ _ l _ rfl (by omega) hA).mono ?_
    rintro e w1 ⟨g, rfl, hown1, hb1⟩
    have hl1 := Lie.of_own hown1
    go_wp2_with fail
    refine Calls.mono (verify_any _ _ _ (Ent.sealed l) _ (by rw [HS.out]) (by rw [HS.out]; omega) (Nat.le_refl _) hl1) ?_
    intro e w2 hv
    unfold VerGot at hv
    rw [HV.out] at hv
    obtain ⟨B, c, rfl, hown2, hb2⟩ := hv
    have hb12 := chain hb1 hb2
    have hl2 := Lie.of_own hown2
    go_wp2_with fail
    refine (refappend_any _ _ _ l _ rfl (by omega) ((hA.below hb12).more hb12.size)).mono ?_
    rintro e w3 ⟨C, d, rfl, hown3, hb3⟩
    have hb13 := chain hb12 hb3
    have hl3 := Lie.of_own hown3
    go_wp2_with fail
    refine (same_any _ _ _ _ _ _ (Ent.sealed l) (Ent.sealed l) _ (by rw [HS.out]) (by rw [HS.out]) ((hl1.below (hb2.trans (hb3.mono hb2.size))).more (Nat.le_trans hb2.size hb3.size)) hl3).mono ?_
    rintro e w4 ⟨rfl, rfl⟩
    go_wp2_with fail
    refine (same_any _ _ _ _ _ _ l l _ rfl rfl ((hl2.below hb3).more hb3.size) ((hA.below hb13).more hb13.size)).mono ?_
    rintro e w5 ⟨rfl, rfl⟩
    go_wp2_with (go_at_call 15; refine (example10_any _).mono ?_; rintro e w6 ⟨rfl, hb6⟩)
    go_ret
    exact ⟨rfl, chain hb13 hb6⟩

set_option maxRecDepth 100000 in
set_option maxHeartbeats 800000 in
theorem walk_ChecksumVerifies (a0 : Option Addr) (len0 cap0 : Nat) (z0 : List Int) (w : World) (w0 : IsRow .u8 w a0 len0 cap0 z0) :
    Calls Try.prog 7 #[.slice a0 len0 cap0] w fun e w' => e = .returned (.bool true) ∧ Below w.heap.size w w' := by
  obtain ⟨l, rfl, hcap, hA⟩ := row_bytes w0
  clear w0
  by_cases hl : 16384 < l.length
  · go_enter Try.func7, Try.ntmps7
    go_wp2_with (go_at_call 15; refine (example10_any _).mono ?_; rintro e w1 ⟨rfl, hb1⟩)
    go_ret
    exact ⟨rfl, hb1⟩
  · go_enter Try.func7, Try.ntmps7
    go_wp2_with fail
    refine Calls.mono (verify_any _ _ _ l _ rfl (by omega) hcap hA) ?_
    rintro e w1 ⟨B, c, rfl, hown1, hb1⟩
    have hl1 := Lie.of_own hown1
    go_wp2_with fail
    refine Calls.mono (refverify_any _ _ _ l _ rfl (by omega) hcap ((hA.below hb1).more hb1.size)) ?_
    rintro e w2 ⟨hb2, hv⟩
    have hb12 := chain hb1 hb2
    rcases hv with ⟨rfl, h1⟩ | ⟨rfl, h1⟩
    · generalize Ent.verify l = v at *
      obtain ⟨p, q⟩ := v
      simp only at h1
      subst h1
      go_wp2_with fail
      refine (same_any _ _ _ _ _ _ [] [] _ rfl rfl ((hl1.below hb2).more hb2.size) Lie.none_).mono ?_
      rintro e w3 ⟨rfl, rfl⟩
      go_wp2_with (go_at_call 15; refine (example10_any _).mono ?_; rintro e w6 ⟨rfl, hb6⟩)
      go_ret
      exact ⟨rfl, chain hb12 hb6⟩
    · have hP : Lie w2 w2.heap.size a0 (bytes (l.take (l.length - 4))) := lie_take ((hA.below hb12).more hb12.size) _
      have hlen : (l.take (l.length - 4)).length = l.length - 4 := by rw [List.length_take]; omega
      have HL := hide hlen
      clear hlen
      rw [h1] at hl1 ⊢
      clear h1
      go_wp2_with fail
      refine (same_any _ _ _ _ _ _ (l.take (l.length - 4)) (l.take (l.length - 4)) _ (by rw [HL.out]) (by rw [HL.out]) ((hl1.below hb2).more hb2.size) hP).mono ?_
      rintro e w3 ⟨rfl, rfl⟩
      go_wp2_with (go_at_call 15; refine (example10_any _).mono ?_; rintro e w6 ⟨rfl, hb6⟩)
      go_ret
      exact ⟨rfl, chain hb12 hb6⟩
end Go.Proofs.Ytjpdlobfngbclaa
