/- The walks of the laws JournalRecovers and JournalLoads, for every input. -/
import Derived.Test.YtjbdfmniiiaakaaEx52
namespace Go.Proofs.Ytjbdfmniiiaakaa
set_option linter.unusedVariables false
open Go.RowKit
open Ent (E)
open Jou (encJ)

theorem recover_len (l : List UInt8) : (Jou.recover l).1.length ≤ l.length := recF_len _ l [] 0 (by simp) (by omega)

set_option maxRecDepth 100000 in
set_option maxHeartbeats 3200000 in
theorem walk_JournalRecovers (a0 : Option Addr) (len0 cap0 : Nat) (z0 : List Int) (w : World) (w0 : IsRow .u8 w a0 len0 cap0 z0) :
    Calls Try.prog 17 #[.slice a0 len0 cap0] w fun e w' => e = .returned (.bool true) ∧ Below w.heap.size w w' := by
  obtain ⟨l, rfl, hcap, hA⟩ := row_bytes w0
  clear w0
  by_cases h1 : 4096 < l.length
  · go_enter Try.func17, Try.ntmps17
    go_wp2_with (go_at_call 21; refine (example52_any _).mono ?_; rintro e w1 ⟨rfl, hb1⟩)
    go_ret
    exact ⟨rfl, hb1⟩
  have H1 := hide (recover_any a0 _ cap0 l w rfl (by omega) hcap hA)
  have H2 := hide (fun W (hb : Below w.heap.size w W) => refrecover_any a0 _ cap0 l W rfl (by omega) hcap (hA.on hb))
  have hlen := recover_len l
  generalize Jou.recover l = r at H1 H2 hlen
  obtain ⟨p, a, er⟩ := r
  simp only at hlen
  have hlen' : p.length ≤ 4096 := by omega
  clear hA hlen
  go_enter Try.func17, Try.ntmps17
  go_wp2_with fail
  refine Calls.mono H1.out ?_
  rintro e w1 ⟨g, R, rfl, j1, b1, k1, k2⟩
  have J1 := hide j1
  clear j1 k1 k2
  go_wp2_with fail
  refine Calls.mono (H2.out _ b1) ?_
  rintro e w2 ⟨B, d, rfl, o2, b2⟩
  have J2 := hide (J1.out.below b2)
  have B2 := hide (chain b1 b2)
  have O2 := hide (Lie.of_own o2)
  clear o2 b2 b1 J1 H1 H2
  simp only at O2 J2
  go_wp2_with fail
  refine Calls.mono (entries_any _ p _ J2.out.read (by omega)) ?_
  rintro e w3 ⟨A3, c3, rfl, o3, b3⟩
  have J3 := hide (J2.out.below b3)
  have B3 := hide (chain B2.out b3)
  have O3 := hide (O2.out.on b3)
  have L3 := hide (Lie.of_own o3)
  clear o3 b3 J2 B2 O2
  go_wp2_with fail
  refine Calls.mono (jsame_any _ _ _ _ _ _ p _ rfl rfl (by omega) L3.out O3.out) ?_
  rintro e w4 ⟨rfl, b4⟩
  have J4 := hide (J3.out.below b4)
  have B4 := hide (chain B3.out b4)
  clear b4 J3 B3 O3 L3
  go_wp2_with fail
  refine Calls.mono (len_any _ p _ J4.out.read) ?_
  rintro e w5 ⟨rfl, rfl⟩
  go_wp2_with fail
  refine Calls.mono (example52_any _) ?_
  rintro e w6 ⟨rfl, b6⟩
  go_wp2_with fail
  go_ret
  exact ⟨rfl, chain B4.out b6⟩

set_option maxRecDepth 100000 in
set_option maxHeartbeats 3200000 in
theorem walk_JournalLoads (a0 : Option Addr) (len0 cap0 : Nat) (z0 : List Int) (w : World) (w0 : IsRow .u8 w a0 len0 cap0 z0) :
    Calls Try.prog 18 #[.slice a0 len0 cap0] w fun e w' => e = .returned (.bool true) ∧ Below w.heap.size w w' := by
  obtain ⟨l, rfl, hcap, hA⟩ := row_bytes w0
  clear w0
  by_cases h1 : 4096 < l.length
  · go_enter Try.func18, Try.ntmps18
    go_wp2_with (go_at_call 21; refine (example52_any _).mono ?_; rintro e w1 ⟨rfl, hb1⟩)
    go_ret
    exact ⟨rfl, hb1⟩
  have H1 := hide (load_any a0 _ cap0 l w rfl (by omega) hcap hA)
  have H2 := hide (fun W (hb : Below w.heap.size w W) => refrecover_any a0 _ cap0 l W rfl (by omega) hcap (hA.on hb))
  have hlen := recover_len l
  generalize Jou.recover l = r at H1 H2 hlen
  obtain ⟨p, a, er⟩ := r
  simp only at hlen
  have hlen' : p.length ≤ 4096 := by omega
  clear hA hlen
  go_enter Try.func18, Try.ntmps18
  go_wp2_with fail
  refine Calls.mono H1.out ?_
  intro e w1 h
  rcases h with ⟨h0, rfl, b1⟩ | ⟨h0, g, R, rfl, j1, b1, k1, k2⟩
  · have hne : ((er : Int) != 0) = true := by simp at h0 ⊢; omega
    clear h0
    go_wp2_with fail
    refine Calls.mono (H2.out _ b1) ?_
    rintro e w2 ⟨B, d, rfl, o2, b2⟩
    have B2 := hide (chain b1 b2)
    clear o2 b2 b1 H1 H2
    go_wp2_with fail
    refine Calls.mono (example52_any _) ?_
    rintro e w6 ⟨rfl, b6⟩
    go_wp2_with fail
    go_ret
    exact ⟨rfl, chain B2.out b6⟩
  · simp only at h0
    subst h0
    have J1 := hide j1
    clear j1 k1 k2
    go_wp2_with fail
    refine Calls.mono (H2.out _ b1) ?_
    rintro e w2 ⟨B, d, rfl, o2, b2⟩
    have J2 := hide (J1.out.below b2)
    have B2 := hide (chain b1 b2)
    have O2 := hide (Lie.of_own o2)
    clear o2 b2 b1 J1 H1 H2
    simp only at O2 J2
    go_wp2_with fail
    refine Calls.mono (entries_any _ p _ J2.out.read (by omega)) ?_
    rintro e w3 ⟨A3, c3, rfl, o3, b3⟩
    have B3 := hide (chain B2.out b3)
    have O3 := hide (O2.out.on b3)
    have L3 := hide (Lie.of_own o3)
    clear o3 b3 J2 B2 O2
    go_wp2_with fail
    refine Calls.mono (jsame_any _ _ _ _ _ _ p _ rfl rfl (by omega) L3.out O3.out) ?_
    rintro e w4 ⟨rfl, b4⟩
    have B4 := hide (chain B3.out b4)
    clear b4 B3 O3 L3
    go_wp2_with fail
    refine Calls.mono (example52_any _) ?_
    rintro e w6 ⟨rfl, b6⟩
    go_wp2_with fail
    go_ret
    exact ⟨rfl, chain B4.out b6⟩
end Go.Proofs.Ytjbdfmniiiaakaa
