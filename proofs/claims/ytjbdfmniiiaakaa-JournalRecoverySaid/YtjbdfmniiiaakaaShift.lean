/- The reference's Shift returns the register behind one byte, for every register and byte. -/
import Derived.Test.YtjbdfmniiiaakaaProg
import Derived.Test.YtjbdfmniiiaakaaCrc
import Derived.Test.YtjbdfmniiiaakaaBit
import Derived.WalkKit
import Derived.Handy
namespace Go.Proofs.Ytjbdfmniiiaakaa
set_option linter.unusedVariables false
open Go.RowKit

set_option maxHeartbeats 400000 in
theorem shift_any (c : Nat) (b : UInt8) (w : World) (hc : c < 4294967296) :
    Calls Try.prog 81 #[.int .u32 c, .int .u8 b.toNat] w fun e w' => e = .returned (.int .u32 (Crc.push c b : Nat)) ∧ w = w' := by
  have h0 := cbyte_u32 c b hc
  go_enter Try.func81, Try.ntmps81
  go_wp2
  clear h0
  go_loop [0, 5] (fun v i => ∃ k X : Nat, k ≤ 8 ∧ X < 4294967296 ∧ i = .int .i64 k ∧ v = .int .u32 X ∧ Crc.push c b = Crc.sh (8 - k) X) (fun _ i => 8 - (intOf i).toNat)
  case atStart => exact ⟨0, _, by omega, cbyte_lt c b hc, rfl, rfl, rfl⟩
  case round =>
    obtain ⟨k, X, hk, hX, rfl, rfl, hd⟩ := hrel
    have HD : Hid (Crc.push c b = Crc.sh (8 - k) X) := hd
    clear hd
    have h1 := and1_u32 X hX
    have h2 := poly_u32 X hX
    by_cases hlt : k < 8
    · by_cases hp : X % 2 = 1
      · have h3 : (((X % 2 : Nat) : Int) == 1) = true := by rw [hp]; rfl
        go_wp2
        go_round
        case rel => exact ⟨k + 1, _, by omega, poly_lt X hX, by go_num, rfl, by rw [HD.out, sh_step1 X k hp hlt]⟩
        case measure => simp [intOf]; omega
      · have h3 : (((X % 2 : Nat) : Int) == 1) = false := by simp; omega
        go_wp2
        go_round
        case rel => exact ⟨k + 1, X / 2, by omega, by omega, by go_num, by go_num, by rw [HD.out, sh_step0 X k hp hlt]⟩
        case measure => simp [intOf]; omega
    · obtain rfl : k = 8 := by omega
      go_wp2
      go_ret
      exact ⟨by rw [HD.out]; rfl, rfl⟩
end Go.Proofs.Ytjbdfmniiiaakaa
