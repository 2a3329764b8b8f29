/- exampleHolds of the laws on layer 11 returns true. No condition. -/
import Derived.Test.YtjbdfmniiiaakaaInt
import Derived.Test.YtjbdfmniiiaakaaPutI
namespace Go.Proofs.Ytjbdfmniiiaakaa
set_option linter.unusedVariables false
open Go.RowKit

theorem str_of {w : World} {A : Option Addr} {c n B : Nat} {m : List UInt8} (h : Lie w B A (bytes m)) (hn : m.length = n) : (convert 22 9 (.slice A n c)).run Try.prog w = .ok (.string ⟨m.toArray⟩) w := by
  subst hn
  exact run_str w _ _ 5 A c m _ Try.underlying22 Try.underlying5 Try.underlying9 h
/-- what was given, and the string of it. -/
theorem gives_str {w w' : World} {l m : List UInt8} {e : Ending} (h : Gives w l e w') (hl : l = m) (n : Nat) (hn : m.length = n) :
    ∃ A c, e = .returned (.slice A n c) ∧ (convert 22 9 (.slice A n c)).run Try.prog w' = .ok (.string ⟨m.toArray⟩) w' ∧ Lie w' w'.heap.size A (bytes m) ∧ Below w.heap.size w w' := by
  subst hl hn
  obtain ⟨A, c, rfl, hown, hb⟩ := h
  exact ⟨A, c, rfl, run_str w' _ _ 5 A c l _ Try.underlying22 Try.underlying5 Try.underlying9 (Lie.of_own hown), Lie.of_own hown, hb⟩
theorem gotb_lit {w w' : World} {g : Bin.Got (List UInt8)} {v : List UInt8} {n k er : Nat} {e : Ending} (h : GotB w g e w') (hg : g = ⟨v, n, er⟩) (hk : v.length = k) :
    ∃ A c, e = .returned (.tuple #[.slice A k c, .int .i64 (n : Nat), .int .i64 (er : Nat)]) ∧ Lie w' w'.heap.size A (bytes v) ∧ Below w.heap.size w w' := by
  subst hg hk
  obtain ⟨A, c, rfl, hown, hb⟩ := h
  exact ⟨A, c, rfl, Lie.of_own hown, hb⟩
theorem gotl_lit {w w' : World} {g : Bin.Got (List Int)} {v : List Int} {n k er : Nat} {e : Ending} (h : GotL w g e w') (hg : g = ⟨v, n, er⟩) (hk : v.length = k) :
    ∃ A c, e = .returned (.tuple #[.slice A k c, .int .i64 (n : Nat), .int .i64 (er : Nat)]) ∧ Lie w' w'.heap.size A (ints v) ∧ Below w.heap.size w w' := by
  subst hg hk
  obtain ⟨A, c, rfl, hown, hb⟩ := h
  exact ⟨A, c, rfl, Lie.of_own hown, hb⟩

theorem x_u1 : Bin.dU [128, 0] 0 = ⟨0, 0, 3⟩ := by kernel_rfl
theorem x_u2 : Bin.dU [128] 0 = ⟨0, 0, 4⟩ := by kernel_rfl
theorem x_b1 : Bin.dB [2, 7, 8] 0 1 = ⟨[], 0, 5⟩ := by kernel_rfl
theorem x_b2 : Bin.dB [9, 2, 7, 8] 1 2 = ⟨[7, 8], 4, 0⟩ := by kernel_rfl
theorem x_i : Bin.dI [3] 0 = ⟨-2, 1, 0⟩ := by kernel_rfl
theorem x_l : Bin.dL [2, 2, 1] 0 5 = ⟨[1, -1], 3, 0⟩ := by kernel_rfl
theorem x_v : Bin.dV [1] 0 = ⟨true, 1, 0⟩ := by kernel_rfl
theorem x_p1 : Bin.enc 300 = [172, 2] := by kernel_rfl
theorem x_p2 : Bin.encI (-2) = [3] := by kernel_rfl
theorem x_p3 : Bin.encB [7, 8] = [2, 7, 8] := by kernel_rfl
theorem x_p4 : Bin.encL [1, -1] = [2, 2, 1] := by kernel_rfl
theorem x_p5 : Bin.encV true = [1] := by kernel_rfl
theorem lie_b {w : World} {t : TypeId} {cs : List Value} {l : List UInt8} (h : bytes l = cs) : Lie (w.alloc (.cells cs.toArray t)) (w.alloc (.cells cs.toArray t)).heap.size (some ⟨w.heap.size, 0, none⟩) (bytes l) := by
  rw [h]
  exact (Lie.new w cs t).more (by simp)
theorem lie_ilit {w : World} {t : TypeId} {cs : List Value} {l : List Int} (h : ints l = cs) : Lie (w.alloc (.cells cs.toArray t)) (w.alloc (.cells cs.toArray t)).heap.size (some ⟨w.heap.size, 0, none⟩) (ints l) := by
  rw [h]
  exact (Lie.new w cs t).more (by simp)
theorem lie_on {w w' : World} {A : Option Addr} {xs : List Value} (h : Lie w w.heap.size A xs) (hb : Below w.heap.size w w') : Lie w' w'.heap.size A xs := (h.below hb).more hb.size
theorem below_lit (w : World) (o : Obj) : Below w.heap.size w (w.alloc o) := (Below.refl _ _).alloc (Nat.le_refl _) o

set_option maxRecDepth 100000 in
set_option maxHeartbeats 3200000 in
theorem example11_any (w : World) :
    Calls Try.prog 30 #[] w fun e w' => e = .returned (.bool true) ∧ Below w.heap.size w w' := by
  go_enter Try.func30, Try.ntmps30
  go_wp2_with fail
  refine Calls.mono (uint_any _ 2 2 [128, 0] 0 _ rfl (by simp) (lie_b rfl)) ?_
  rw [x_u1]
  rintro e w1 ⟨rfl, hw⟩
  have hb1 : Below w.heap.size w w1 := hw ▸ below_lit _ _
  clear hw
  go_wp2_with fail
  refine Calls.mono (uint_any _ 1 1 [128] 0 _ rfl (by simp) (lie_b rfl)) ?_
  rw [x_u2]
  rintro e w2 ⟨rfl, hw⟩
  have hb2 : Below w.heap.size w w2 := chain hb1 (hw ▸ below_lit _ _)
  clear hw hb1
  go_wp2_with fail
  refine Calls.mono (bytes_any _ 3 3 [2, 7, 8] 0 1 _ rfl (by simp) (by simp) ⟨by omega, by omega⟩ (lie_b rfl)) ?_
  intro e w3 h3
  obtain ⟨A3, c3, rfl, -, hb3⟩ := gotb_lit h3 x_b1 rfl
  have hb3 := chain hb2 (chain (below_lit _ _) hb3)
  clear h3 hb2
  go_wp2_with fail
  refine Calls.mono (bytes_any _ 4 4 [9, 2, 7, 8] 1 2 _ rfl (by simp) (by simp) ⟨by omega, by omega⟩ (lie_b rfl)) ?_
  intro e w4 h4
  obtain ⟨A4, c4, rfl, hl4, hb4⟩ := gotb_lit h4 x_b2 rfl
  have hb4 := chain hb3 (chain (below_lit _ _) hb4)
  clear h4 hb3
  go_wp2_with fail
  refine Calls.mono (int_any _ 1 1 [3] 0 _ rfl (by simp) (lie_b rfl)) ?_
  rw [x_i]
  rintro e w5 ⟨rfl, hw⟩
  have hs : Below w4.heap.size w4 w5 := hw ▸ below_lit _ _
  have hl5 := lie_on hl4 hs
  have hb5 := chain hb4 hs
  clear hw hs hl4 hb4
  go_wp2_with fail
  refine Calls.mono (ints_any _ 3 3 [2, 2, 1] 0 5 _ rfl (by simp) ⟨by omega, by omega⟩ (lie_b rfl)) ?_
  intro e w6 h6
  obtain ⟨A6, c6, rfl, hl6, hs⟩ := gotl_lit h6 x_l rfl
  have hs := chain (below_lit w5 _) hs
  have hl6' := lie_on hl5 hs
  have hb6 := chain hb5 hs
  clear h6 hs hl5 hb5
  go_wp2_with fail
  refine Calls.mono (bool_any _ 1 1 [1] 0 _ rfl (by simp) (lie_b rfl)) ?_
  rw [x_v]
  rintro e w7 ⟨rfl, hw⟩
  have hs : Below w6.heap.size w6 w7 := hw ▸ below_lit _ _
  have hl7 := lie_on hl6 hs
  have hl7' := lie_on hl6' hs
  have hb7 := chain hb6 hs
  clear hw hs hl6 hl6' hb6
  go_wp2_with fail
  refine Calls.mono (putuint_any 300 _ (by omega)) ?_
  intro e w8 h
  obtain ⟨A8, c8, rfl, k1, -, hs⟩ := gives_str h x_p1 2 rfl
  have hl8 := lie_on hl7 hs
  have hl8' := lie_on hl7' hs
  have hb8 := chain hb7 hs
  clear h hs hl7 hl7' hb7
  go_wp2_with fail
  refine Calls.mono (putint_any (-2) _ ⟨by omega, by omega⟩) ?_
  intro e w9 h
  obtain ⟨A9, c9, rfl, k2, -, hs⟩ := gives_str h x_p2 1 rfl
  have hl9 := lie_on hl8 hs
  have hl9' := lie_on hl8' hs
  have hb9 := chain hb8 hs
  clear h hs hl8 hl8' hb8 k1
  go_wp2_with fail
  refine Calls.mono (putbytes_any _ 2 2 [7, 8] _ rfl (by simp) (lie_b rfl)) ?_
  intro e w10 h
  obtain ⟨A10, c10, rfl, k3, -, hs⟩ := gives_str h x_p3 3 rfl
  have hs := chain (below_lit w9 _) hs
  have hl10 := lie_on hl9 hs
  have hl10' := lie_on hl9' hs
  have hb10 := chain hb9 hs
  clear h hs hl9 hl9' hb9 k2
  go_wp2_with fail
  refine Calls.mono (putints_any _ 2 2 [1, -1] _ rfl (by simp) (by intro x hx; simp at hx; rcases hx with rfl | rfl <;> exact ⟨by omega, by omega⟩) (lie_ilit rfl)) ?_
  intro e w11 h
  obtain ⟨A11, c11, rfl, k4, -, hs⟩ := gives_str h x_p4 3 rfl
  have hs := chain (below_lit w10 _) hs
  have hl11 := lie_on hl10 hs
  have hl11' := lie_on hl10' hs
  have hb11 := chain hb10 hs
  clear h hs hl10 hl10' hb10 k3
  go_wp2_with fail
  refine Calls.mono (putbool_any true _) ?_
  intro e w12 h
  obtain ⟨A12, c12, rfl, k5, -, hs⟩ := gives_str h x_p5 1 rfl
  have hl12 := lie_on hl11 hs
  have hl12' := lie_on hl11' hs
  have hb12 := chain hb11 hs
  clear h hs hl11 hl11' hb11 k4
  have k6 := str_of (c := c4) (n := 2) hl12' rfl
  obtain ⟨b, o, rfl, _, hc⟩ := hl12 (by simp [ints])
  have hc0 := hc 0 _ rfl
  have hc1 := hc 1 _ rfl
  simp only [Nat.add_zero] at hc0
  clear hc hl12'
  go_wp2_with fail
  go_ret
  exact ⟨rfl, hb12⟩
end Go.Proofs.Ytjbdfmniiiaakaa
