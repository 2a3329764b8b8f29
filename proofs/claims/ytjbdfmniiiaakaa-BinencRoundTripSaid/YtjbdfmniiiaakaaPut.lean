/- PutUint of the program and of the reference return the encoding, for every number of 64 bits. -/
import Derived.Test.YtjbdfmniiiaakaaProg
import Derived.Test.YtjbdfmniiiaakaaBin
import Derived.Test.YtjbdfmniiiaakaaLaw
import Derived.Test.YtjbdfmniiiaakaaRow
namespace Go.Proofs.Ytjbdfmniiiaakaa
set_option linter.unusedVariables false
open Go.RowKit

theorem int_eq_ {k : IntKind} {a b : Int} (h : a = b) : Value.int k a = .int k b := by rw [h]
theorem info_b : (Try.prog.info? 5).map (fun i => (i.zero, i.size, i.bytes)) = some (some (.int .u8 0), 1, 1) := by kernel_rfl

theorem or128 : ∀ x : Nat, x < 256 → x ||| 128 = x % 128 + 128 := by decide +kernel
theorem byte128 (m : Nat) : ∃ b : UInt8, bits .or .u8 ((m : Int) % 256) 128 = (b.toNat : Int) ∧ b = UInt8.ofNat (m % 128 + 128) ∧ b.toNat = m % 128 + 128 := by
  have h3 : (UInt8.ofNat (m % 128 + 128)).toNat = m % 128 + 128 := Bin.ofNat_small (by omega)
  refine ⟨UInt8.ofNat (m % 128 + 128), ?_, rfl, h3⟩
  have := u8_or_nat (m % 256) 128 (by omega) (by omega)
  rw [or128 _ (by omega), show m % 256 % 128 = m % 128 by omega] at this
  rw [h3]
  rw [Int.natCast_emod] at this
  exact this
theorem encF_more (k m : Nat) (hk : k < 9) (h : 128 ≤ m) : Bin.encF (9 - k) m = UInt8.ofNat (m % 128 + 128) :: Bin.encF (9 - (k + 1)) (m / 128) := by
  obtain ⟨j, hj⟩ : ∃ j, 9 - k = j + 1 := ⟨8 - k, by omega⟩
  rw [hj, Bin.encF, if_neg (by omega), show 9 - (k + 1) = j by omega]
theorem encF_last (k m : Nat) (h : m < 128) : Bin.encF k m = [UInt8.ofNat m] := by
  cases k with
  | zero => rfl
  | succ k => rw [Bin.encF, if_pos h]
theorem pow_step (k m : Nat) (hk : k < 9) (h : m < 2 ^ (64 - 7 * k)) : m / 128 < 2 ^ (64 - 7 * (k + 1)) := by
  have e1 : (2 : Nat) ^ (64 - 7 * (k + 1)) * 128 = 2 ^ (64 - 7 * k) := by
    rw [show (128 : Nat) = 2 ^ 7 from rfl, ← Nat.pow_add]; congr 1; omega
  omega
theorem pow_last (k m : Nat) (hk : k ≤ 9) (h : m < 2 ^ (64 - 7 * k)) (hm : 128 ≤ m) : k < 9 := by
  rcases Nat.lt_or_ge k 9 with h9 | h9
  · exact h9
  · have : k = 9 := by omega
    subst this
    simp at h
    omega
theorem pow_64 (k m : Nat) (h : m < 2 ^ (64 - 7 * k)) : m < 18446744073709551616 := by
  have := Nat.pow_le_pow_right (n := 2) (by omega) (show 64 - 7 * k ≤ 64 by omega)
  omega

/-- what a function hands back that returns the bytes l in new memory. -/
def Gives (w : World) (l : List UInt8) (e : Ending) (w' : World) : Prop :=
  ∃ A c, e = .returned (.slice A l.length c) ∧ w'.ownsRow w.heap.size 5 1 (.slice A l.length c) l.length (bytes l) ∧ Below w.heap.size w w'

theorem gives_of {w w' : World} {l pre : List UInt8} {b : UInt8} {k : Nat} {A B : Option Addr} {c d : Nat} {w1 : World} (hl : l = pre ++ [b]) (hk : pre.length = k) (ha : Apped w1 w' w.heap.size 5 1 A B k c (k + 1) d (bytes pre ++ bytes [b])) (hb : Below w.heap.size w w') :
    Gives w l (.returned (.slice B (k + 1) d)) w' := by
  subst hl
  have e : (pre ++ [b]).length = k + 1 := by simp [hk]
  refine ⟨B, d, by rw [e], ?_, hb⟩
  rw [e, bytes_append]
  exact ha.own

set_option maxRecDepth 100000 in
set_option maxHeartbeats 1600000 in
theorem putuint_any (n : Nat) (w : World) (hn : n < 18446744073709551616) :
    Calls Try.prog 59 #[.int .u64 n] w (Gives w (Bin.enc n)) := by
  obtain ⟨i0, hi, hz0, hz1, hz2⟩ := info_parts info_b
  go_enter Try.func59, Try.ntmps59
  go_wp2_with fail
  go_loopw [0, 3] (fun v s wr => ∃ (k m : Nat) (A : Option Addr) (c : Nat) (pre : List UInt8), k ≤ 9 ∧ m < 18446744073709551616 ∧ v = .int .u64 m ∧ s = .slice A k c ∧ Hid (pre.length = k) ∧ Hid (m < 2 ^ (64 - 7 * k)) ∧ Hid (Bin.enc n = pre ++ Bin.encF (9 - k) m) ∧
      wr.ownsRow w.heap.size 5 1 (.slice A k c) k (bytes pre) ∧ Below w.heap.size w wr) (fun v _ _ => (intOf v).toNat)
  case atStart => exact ⟨0, n, none, 0, [], by omega, hn, rfl, rfl, rfl, show n < 2 ^ 64 from hn, rfl, own_nil, Below.refl _ _⟩
  case round =>
    obtain ⟨k, m, A, c, pre, hk, hm, rfl, rfl, HP, HM, HE, hown, hbw⟩ := hrel
    by_cases hlt : 128 ≤ m
    · have hk9 := pow_last k m hk HM.out hlt
      obtain ⟨b, hb1, hb2, hb3⟩ := byte128 m
      have HB := hide hb2
      clear hb2 hb3
      go_wp2_with (at_builtin; refine wpList_app rfl (.tmp 6) (.tmp 10) _ rfl w.heap.size 5 i0 _ 1 1 Try.underlying22 hi hz0 hz1 hz2 rfl (by omega) A k c (bytes pre) (by simp [Act.eval]) (hown.alloc _) (wr.heap.size + 1) (some ⟨wr.heap.size, 0, none⟩) 1 1 (bytes [b]) rfl rfl (Lie.new wr (bytes [b]) _) (bytes_one [b]) (by omega) (by unfold maxLen; omega) (by have := hbw.size; simp; omega) w (hbw.alloc hbw.size _) ?_; intro A2 c2 w2 HA2 hb2)
      go_roundw
      case rel =>
        refine ⟨k + 1, m / 128, A2, c2, pre ++ [b], by omega, by omega, by go_num, rfl, ?_, pow_step k m hk9 HM.out, ?_, by rw [bytes_append]; exact HA2.out.own, hb2⟩
        · show _ = _
          rw [List.length_append, HP.out]; rfl
        · show _ = _
          rw [HE.out, encF_more k m hk9 hlt, HB.out, List.append_assoc]; rfl
      case measure => simp [intOf]; omega
    · obtain ⟨b, rfl⟩ : ∃ b : UInt8, m = b.toNat := ⟨UInt8.ofNat m, (Bin.ofNat_small (by omega)).symm⟩
      go_wp2_with (at_builtin; refine wpList_app rfl (.tmp 14) (.tmp 17) _ rfl w.heap.size 5 i0 _ 1 1 Try.underlying22 hi hz0 hz1 hz2 rfl (by omega) A k c (bytes pre) (by simp [Act.eval]) (hown.alloc _) (wr.heap.size + 1) (some ⟨wr.heap.size, 0, none⟩) 1 1 (bytes [b]) rfl rfl (Lie.new wr (bytes [b]) _) (bytes_one [b]) (by omega) (by unfold maxLen; omega) (by have := hbw.size; simp; omega) w (hbw.alloc hbw.size _) ?_; intro A2 c2 w2 HA2 hb2)
      go_ret
      exact gives_of (by rw [HE.out, encF_last _ _ (by omega)]; simp) HP.out HA2.out hb2

set_option maxRecDepth 100000 in
set_option maxHeartbeats 1600000 in
theorem refputuint_any (n : Nat) (w : World) (hn : n < 18446744073709551616) :
    Calls Try.prog 64 #[.int .u64 n] w (Gives w (Bin.enc n)) := by
  obtain ⟨i0, hi, hz0, hz1, hz2⟩ := info_parts info_b
  go_enter Try.func64, Try.ntmps64
  go_wp2_with fail
  go_loopw [0, 3, 4] (fun v s i wr => ∃ (k m : Nat) (A : Option Addr) (c : Nat) (pre : List UInt8), k ≤ 9 ∧ m < 18446744073709551616 ∧ v = .int .u64 m ∧ s = .slice A k c ∧ i = .int .i64 k ∧ Hid (pre.length = k) ∧ Hid (m < 2 ^ (64 - 7 * k)) ∧ Hid (Bin.enc n = pre ++ Bin.encF (9 - k) m) ∧
      wr.ownsRow w.heap.size 5 1 (.slice A k c) k (bytes pre) ∧ Below w.heap.size w wr) (fun v _ _ _ => (intOf v).toNat)
  case atStart => exact ⟨0, n, none, 0, [], by omega, hn, rfl, rfl, rfl, rfl, show n < 2 ^ 64 from hn, rfl, own_nil, Below.refl _ _⟩
  case round =>
    obtain ⟨k, m, A, c, pre, hk, hm, rfl, rfl, rfl, HP, HM, HE, hown, hbw⟩ := hrel
    by_cases hlt : 128 ≤ m
    · have hk9 := pow_last k m hk HM.out hlt
      obtain ⟨b, hb1, hb2, hb3⟩ := byte128 m
      have hb4 : (128 : Int) + (m : Int) % 128 = (b.toNat : Int) := by omega
      have HB := hide hb2
      have hlt2 : (127 : Int) < (m : Int) := by omega
      clear hb1 hb2 hb3
      go_wp2_with (at_builtin; refine wpList_app rfl (.tmp 13) (.tmp 18) _ rfl w.heap.size 5 i0 _ 1 1 Try.underlying22 hi hz0 hz1 hz2 rfl (by omega) A k c (bytes pre) (by simp [Act.eval]) (hown.alloc _) (wr.heap.size + 1) (some ⟨wr.heap.size, 0, none⟩) 1 1 (bytes [b]) rfl rfl (Lie.new wr (bytes [b]) _) (bytes_one [b]) (by omega) (by unfold maxLen; omega) (by have := hbw.size; simp; omega) w (hbw.alloc hbw.size _) ?_; intro A2 c2 w2 HA2 hb2)
      go_roundw
      case rel =>
        refine ⟨k + 1, m / 128, A2, c2, pre ++ [b], by omega, by omega, by go_num, rfl, by go_num, ?_, pow_step k m hk9 HM.out, ?_, by rw [bytes_append]; exact HA2.out.own, hb2⟩
        · show _ = _
          rw [List.length_append, HP.out]; rfl
        · show _ = _
          rw [HE.out, encF_more k m hk9 hlt, HB.out, List.append_assoc]; rfl
      case measure => simp [intOf]; omega
    · obtain ⟨b, rfl⟩ : ∃ b : UInt8, m = b.toNat := ⟨UInt8.ofNat m, (Bin.ofNat_small (by omega)).symm⟩
      have hlt2 : ¬ (127 : Int) < (b.toNat : Int) := by omega
      go_wp2_with (at_builtin; refine wpList_app rfl (.tmp 22) (.tmp 25) _ rfl w.heap.size 5 i0 _ 1 1 Try.underlying22 hi hz0 hz1 hz2 rfl (by omega) A k c (bytes pre) (by simp [Act.eval]) (hown.alloc _) (wr.heap.size + 1) (some ⟨wr.heap.size, 0, none⟩) 1 1 (bytes [b]) rfl rfl (Lie.new wr (bytes [b]) _) (bytes_one [b]) (by omega) (by unfold maxLen; omega) (by have := hbw.size; simp; omega) w (hbw.alloc hbw.size _) ?_; intro A2 c2 w2 HA2 hb2)
      go_ret
      exact gives_of (by rw [HE.out, encF_last _ _ (by omega)]; simp) HP.out HA2.out hb2
end Go.Proofs.Ytjbdfmniiiaakaa
