/- Small equations on bit operations in the walk's spelling, for numbers that fit their kinds. -/
import Derived.WalkKit
import Derived.Test.YtjbdfmniiiaakaaCrc
namespace Go.Proofs.Ytjbdfmniiiaakaa
set_option linter.unusedVariables false
/-! ### bit operations, in the walk's spelling -/
theorem ret_int {k : IntKind} {a b : Int} (h : a = b) : Ending.returned (.int k a) = .returned (.int k b) := by rw [h]
theorem int_eq {k : IntKind} {a b : Int} (h : a = b) : Value.int k a = .int k b := by rw [h]
theorem and1_u32 (X : Nat) (h : X < 4294967296) : bits .and .u32 (X : Int) 1 = ((X % 2 : Nat) : Int) := by
  have := u32_and_nat X 1 h (by omega)
  rw [nat_mask1] at this
  exact this
theorem xor_u32 (a b : Nat) (ha : a < 4294967296) (hb : b < 4294967296) : bits .xor .u32 (a : Int) (b : Int) = ((a ^^^ b : Nat) : Int) := u32_xor_nat a b ha hb
theorem poly_u32 (X : Nat) (h : X < 4294967296) : bits .xor .u32 ((X : Int) / 2) 3988292384 = ((X / 2 ^^^ 3988292384 : Nat) : Int) := by
  have := u32_xor_nat (X / 2) 3988292384 (by omega) (by omega)
  rw [Int.natCast_ediv] at this
  exact this
theorem byte_mod (b : UInt8) : ((b.toNat : Int) % 4294967296) = (b.toNat : Int) := by have := b.toNat_lt; omega
theorem cbyte_u32 (c : Nat) (b : UInt8) (hc : c < 4294967296) : bits .xor .u32 (c : Int) ((b.toNat : Int) % 4294967296) = ((c ^^^ b.toNat : Nat) : Int) := by
  rw [byte_mod]
  exact u32_xor_nat c b.toNat hc (by have := b.toNat_lt; omega)
theorem cbyte_lt (c : Nat) (b : UInt8) (hc : c < 4294967296) : c ^^^ b.toNat < 4294967296 :=
  Nat.xor_lt_two_pow (n := 32) hc (by have := b.toNat_lt; omega)
theorem poly_lt (X : Nat) (h : X < 4294967296) : X / 2 ^^^ 3988292384 < 4294967296 := Nat.xor_lt_two_pow (n := 32) (by omega) (by omega)
theorem sh_step1 (X k : Nat) (h : X % 2 = 1) (hk : k < 8) : Crc.sh (8 - k) X = Crc.sh (8 - (k + 1)) (X / 2 ^^^ 3988292384) := by
  rw [show 8 - k = (8 - (k + 1)) + 1 by omega]
  simp only [Crc.sh, Crc.sh1, if_pos h]
theorem sh_step0 (X k : Nat) (h : ¬ X % 2 = 1) (hk : k < 8) : Crc.sh (8 - k) X = Crc.sh (8 - (k + 1)) (X / 2) := by
  rw [show 8 - k = (8 - (k + 1)) + 1 by omega]
  simp only [Crc.sh, Crc.sh1, if_neg h]
end Go.Proofs.Ytjbdfmniiiaakaa
