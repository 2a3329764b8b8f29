/- exampleHolds of the laws on layer 10 returns true. No condition. -/
import Derived.Test.YtjpdlobfngbclaaFlip
import Derived.Lib.SlBytesConst
namespace Go.Proofs.Ytjpdlobfngbclaa
set_option linter.unusedVariables false
open Go.RowKit

theorem lie_lit {w : World} {t : TypeId} {cs : List Value} {l : List UInt8} (h : bytes l = cs) : Lie (w.alloc (.cells cs.toArray t)) (w.alloc (.cells cs.toArray t)).heap.size (some ⟨w.heap.size, 0, none⟩) (bytes l) := by
  rw [h]
  exact (Lie.new w cs t).more (by simp)

theorem lie_mark {w : World} {t : TypeId} {fr : Nat × Nat} {cs : List Value} {l : List UInt8} (h : bytes l = cs) : Lie (w.alloc (.cells cs.toArray t fr)) (w.alloc (.cells cs.toArray t fr)).heap.size (some ⟨w.heap.size, 0, none⟩) (bytes l) := by
  rw [h]
  exact fun _ => ⟨w.heap.size, 0, rfl, by simp, fun j u hu => by rw [Nat.zero_add, World.cell?_alloc_mark]; simpa using hu⟩

theorem ex10_ver {w w' : World} {e : Ending} (h : VerGot w [0, 0, 0, 1] e w') : ∃ B c, e = .returned (.tuple #[.slice B 0 c, .int .i64 38]) ∧ Below w.heap.size w w' := by
  have hv : Ent.verify [0, 0, 0, 1] = ([], 38) := by decide +kernel
  unfold VerGot at h
  rw [hv] at h
  obtain ⟨B, c, h1, _, h3⟩ := h
  exact ⟨B, c, h1, h3⟩

theorem digits_bytes : bytes [49, 50, 51, 52, 53, 54, 55, 56, 57] = [.int .u8 49, .int .u8 50, .int .u8 51, .int .u8 52, .int .u8 53, .int .u8 54, .int .u8 55, .int .u8 56, .int .u8 57] := rfl
theorem crc_digits (w : World) (t : TypeId) (fr : Nat × Nat) :
    Calls Try.prog 16 #[.slice (some ⟨w.heap.size, 0, none⟩) 9 9] (w.alloc (.cells #[.int .u8 49, .int .u8 50, .int .u8 51, .int .u8 52, .int .u8 53, .int .u8 54, .int .u8 55, .int .u8 56, .int .u8 57] t fr)) fun e w' =>
      e = .returned (.int .u32 3421780262) ∧ Below (w.alloc (.cells #[.int .u8 49, .int .u8 50, .int .u8 51, .int .u8 52, .int .u8 53, .int .u8 54, .int .u8 55, .int .u8 56, .int .u8 57] t fr)).heap.size (w.alloc (.cells #[.int .u8 49, .int .u8 50, .int .u8 51, .int .u8 52, .int .u8 53, .int .u8 54, .int .u8 55, .int .u8 56, .int .u8 57] t fr)) w' := by
  have s1 : Crc.sum [49, 50, 51, 52, 53, 54, 55, 56, 57] = 3421780262 := by decide +kernel
  refine (crc_any _ 9 9 [49, 50, 51, 52, 53, 54, 55, 56, 57] _ rfl (by simp) (lie_mark digits_bytes)).mono fun e w' ⟨he, hb⟩ => ?_
  rw [s1] at he
  exact ⟨he, hb⟩

theorem crc_nil (w : World) : Calls Try.prog 16 #[.slice none 0 0] w fun e w' => e = .returned (.int .u32 0) ∧ Below w.heap.size w w' := by
  have s2 : Crc.sum [] = 0 := by decide +kernel
  refine (crc_any none 0 0 [] w rfl (by simp) Lie.none_).mono fun e w' ⟨he, hb⟩ => ?_
  rw [s2] at he
  exact ⟨he, hb⟩
theorem append_nil (w : World) : Calls Try.prog 20 #[.slice none 0 0] w fun e w' => ∃ g, e = .returned (.slice (some ⟨g, 0, none⟩) 4 4) ∧
    w'.ownsRow w.heap.size 5 1 (.slice (some ⟨g, 0, none⟩) 4 4) 4 (bytes [0, 0, 0, 0]) ∧ Below w.heap.size w w' := by
  have s3 : Ent.sealed [] = [0, 0, 0, 0] := by decide +kernel
  refine (append_any none 0 0 [] w rfl (by simp) Lie.none_).mono fun e w' ⟨g, he, ho, hb⟩ => ?_
  rw [s3] at ho
  exact ⟨g, he, ho, hb⟩

set_option maxRecDepth 100000 in
set_option maxHeartbeats 1600000 in
theorem example10_any (w : World) :
    Calls Try.prog 15 #[] w fun e w' => e = .returned (.bool true) ∧ Below w.heap.size w w' := by
  have kc := fun (w : World) (C : Array Value) (n c : Nat) => Lib.run_convert_bytes_const (P := Try.prog) w 22 5 C n c Try.underlying22 Try.underlying5
  go_enter Try.func15, Try.ntmps15
  go_wp2_with (go_at_call 21; refine Calls.mono (verify_any _ _ _ [0, 0, 0, 1] _ rfl (by simp) (by omega) (lie_lit rfl)) ?_; intro e w1 hv; obtain ⟨B1, c1, rfl, hb1⟩ := ex10_ver hv; clear hv)
  refine (crc_digits w1 _ _).mono ?_
  rintro e w2 ⟨rfl, hb2⟩
  go_wp2_with fail
  refine (crc_nil w2).mono ?_
  rintro e w3 ⟨rfl, hb3⟩
  go_wp2_with fail
  refine (append_nil w3).mono ?_
  rintro e w4 ⟨g, rfl, hown, hb4⟩
  have hl4 := Lie.of_own hown
  go_wp2_with fail
  refine (same_any _ _ 4 4 _ _ [0, 0, 0, 0] [0, 0, 0, 0] _ rfl rfl ((hl4.below ((Below.refl _ _).alloc (Nat.le_refl _) _)).more (by simp)) (lie_lit rfl)).mono ?_
  rintro e w5 ⟨rfl, rfl⟩
  go_wp2_with fail
  go_ret
  have k1 := chain (chain_alloc (Below.refl _ w) _) hb1
  have k2 := chain (chain_alloc k1 _) hb2
  exact ⟨rfl, chain_alloc (chain (chain k2 hb3) hb4) _⟩
end Go.Proofs.Ytjpdlobfngbclaa
