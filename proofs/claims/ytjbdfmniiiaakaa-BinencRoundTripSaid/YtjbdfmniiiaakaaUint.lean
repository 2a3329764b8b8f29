/- Uint returns the number, the index behind it and the error, for byte strings of at most 1000000 bytes and every index. -/
import Derived.Test.YtjbdfmniiiaakaaPut
namespace Go.Proofs.Ytjbdfmniiiaakaa
set_option linter.unusedVariables false
open Go.RowKit

/-- the three results of a decoding function. -/
def three (a b c : Value) : Ending := .returned (.tuple #[a, b, c])

theorem and127 (x : UInt8) : bits .and .u8 (x.toNat : Int) 127 = (x.toNat : Int) % 128 := by
  have := u8_and_nat x.toNat 127 x.toNat_lt (by omega)
  rw [nat_mask7, Int.natCast_emod] at this
  exact this

theorem decL_bad (k acc : Nat) (c : UInt8) (r : List UInt8) (h : (k = 9 ∧ 1 < c.toNat) ∨ (c.toNat = 0 ∧ 0 < k)) : Bin.decL k acc (c :: r) = ⟨0, 0, 3⟩ := by rw [Bin.decL, if_pos h]
theorem decL_last (k acc : Nat) (c : UInt8) (r : List UInt8) (h : ¬ ((k = 9 ∧ 1 < c.toNat) ∨ (c.toNat = 0 ∧ 0 < k))) (h2 : c.toNat < 128) : Bin.decL k acc (c :: r) = ⟨acc + 2 ^ (7 * k) * c.toNat, k + 1, 0⟩ := by rw [Bin.decL, if_neg h, if_pos h2]
theorem decL_more (k acc : Nat) (c : UInt8) (r : List UInt8) (h : ¬ ((k = 9 ∧ 1 < c.toNat) ∨ (c.toNat = 0 ∧ 0 < k))) (h2 : 128 ≤ c.toNat) : Bin.decL k acc (c :: r) = Bin.decL (k + 1) (acc + 2 ^ (7 * k) * (c.toNat % 128)) r := by rw [Bin.decL, if_neg h, if_neg (by omega)]
theorem dU_yes {l : List UInt8} {a v n : Nat} (ha : a ≤ l.length) (h : Bin.decL 0 0 (l.drop a) = ⟨v, n, 0⟩) : Bin.dU l a = ⟨v, a + n, 0⟩ := by
  unfold Bin.dU
  rw [if_neg (by omega), Int.toNat_natCast, h]
  simp
theorem dU_no {l : List UInt8} {a e : Nat} (ha : a ≤ l.length) (he : e ≠ 0) (h : Bin.decL 0 0 (l.drop a) = ⟨0, 0, e⟩) : Bin.dU l a = ⟨0, 0, e⟩ := by
  unfold Bin.dU
  rw [if_neg (by omega), Int.toNat_natCast, h]
  simp [he]
theorem dU_out {l : List UInt8} {a : Int} (h : a < 0 ∨ (l.length : Int) < a) : Bin.dU l a = ⟨0, 0, 2⟩ := by
  unfold Bin.dU
  rw [if_pos h]

/-- the three results, spelled as they stand. -/
theorem got_u {g : Bin.Got Nat} {v n e : Nat} {V N E : Int} (h : g = ⟨v, n, e⟩) (hv : V = (v : Int)) (hn : N = (n : Int)) (he : E = (e : Int)) :
    Ending.returned (.tuple #[.int .u64 V, .int .i64 N, .int .i64 E]) = .returned (.tuple #[.int .u64 (g.v : Int), .int .i64 (g.next : Int), .int .i64 (g.e : Int)]) := by
  subst h hv hn he; rfl

theorem pow7_lt (k c : Nat) (hk : k ≤ 9) (hc : c < 128) (h9 : k = 9 → c ≤ 1) : 2 ^ (7 * k) * c < 18446744073709551616 := by
  rcases Nat.lt_or_ge k 9 with h | h
  · have h1 : (2 : Nat) ^ (7 * k) ≤ 2 ^ 56 := Nat.pow_le_pow_right (by omega) (by omega)
    have h2 : 2 ^ (7 * k) * c ≤ 2 ^ 56 * 127 := Nat.mul_le_mul h1 (by omega)
    omega
  · obtain rfl : k = 9 := by omega
    have := h9 rfl
    have h2 : (2 : Nat) ^ (7 * 9) * c ≤ 2 ^ (7 * 9) * 1 := Nat.mul_le_mul_left _ this
    omega
theorem or_step (k acc c : Nat) (hk : k ≤ 9) (hacc : acc < 2 ^ (7 * k)) (hc : c < 128) (h9 : k = 9 → c ≤ 1) :
    bits .or .u64 (acc : Int) (IntKind.u64.wrap ((c : Int) * 2 ^ (7 * k))) = ((acc + 2 ^ (7 * k) * c : Nat) : Int) ∧ acc + 2 ^ (7 * k) * c < 18446744073709551616 ∧ acc + 2 ^ (7 * k) * c < 2 ^ (7 * (k + 1)) := by
  have h1 := pow7_lt k c hk hc h9
  have e1 : ((c : Int) * 2 ^ (7 * k)) = ((2 ^ (7 * k) * c : Nat) : Int) := by rw [Int.natCast_mul, Int.natCast_pow, Int.mul_comm]; rfl
  have e2 : IntKind.u64.wrap (((2 ^ (7 * k) * c : Nat) : Int)) = ((2 ^ (7 * k) * c : Nat) : Int) := by rw [IntKind.wrap_u64]; omega
  have e3 : acc ||| 2 ^ (7 * k) * c = acc + 2 ^ (7 * k) * c := by
    rw [Nat.or_comm, nat_join (7 * k) _ _ (by simp) hacc, Nat.add_comm]
  have h2 : acc + 2 ^ (7 * k) * c < 2 ^ (7 * (k + 1)) := by
    have : (2 : Nat) ^ (7 * (k + 1)) = 2 ^ (7 * k) * 128 := Bin.pow7 k
    have h3 : 2 ^ (7 * k) * (c + 1) ≤ 2 ^ (7 * k) * 128 := Nat.mul_le_mul_left _ (by omega)
    rw [Nat.mul_add] at h3
    omega
  have h4 : acc < 18446744073709551616 := by
    have : (2 : Nat) ^ (7 * k) ≤ 2 ^ 63 := Nat.pow_le_pow_right (by omega) (by omega)
    omega
  refine ⟨?_, ?_, h2⟩
  · rw [e1, e2, u64_or_nat _ _ h4 h1, e3]
  · rw [← e3]
    exact Nat.or_lt_two_pow (n := 64) (by omega) (by omega)

theorem or_nine (k acc : Nat) (x : UInt8) (hk : 9 ≤ k) (hk9 : k ≤ 9) (hacc : acc < 2 ^ (7 * k)) (hx : x.toNat ≤ 1) :
    bits .or .u64 (acc : Int) ((x.toNat : Int) % 128 * 9223372036854775808) = ((acc + 2 ^ (7 * k) * x.toNat : Nat) : Int) := by
  obtain ⟨h1, _, _⟩ := or_step k acc x.toNat hk9 hacc (by omega) (by omega)
  obtain rfl : k = 9 := by omega
  rw [← h1]
  congr 1
  rw [IntKind.wrap_u64]
  have e : (2 : Int) ^ (7 * 9) = 9223372036854775808 := by decide
  rw [e]
  omega

set_option maxRecDepth 100000 in
set_option maxHeartbeats 1600000 in
theorem uint_in (A : Option Addr) (cap : Nat) (l : List UInt8) (a : Nat) (w : World) (hl : l.length ≤ 1000000) (ha : a ≤ l.length) (hA : Lie w w.heap.size A (bytes l)) :
    Calls Try.prog 57 #[.slice A l.length cap, .int .i64 a] w fun e w' => e = .returned (.tuple #[.int .u64 ((Bin.dU l a).v : Nat), .int .i64 ((Bin.dU l a).next : Nat), .int .i64 ((Bin.dU l a).e : Nat)]) ∧ w = w' := by
  go_enter Try.func57, Try.ntmps57
  go_wp2_with fail
  go_step3
  go_wp2_with fail
  go_step3
  go_wp2_with fail
  go_loop [7, 8] (fun v i => ∃ k acc : Nat, a + k ≤ l.length ∧ k ≤ 9 ∧ acc < 18446744073709551616 ∧ i = .int .i64 ((a : Int) + (k : Int)) ∧ v = .int .u64 acc ∧ Hid (acc < 2 ^ (7 * k)) ∧ Hid (Bin.decL 0 0 (l.drop a) = Bin.decL k acc (l.drop (a + k)))) (fun _ i => l.length + 1 - (intOf i).toNat)
  case atStart => exact ⟨0, 0, by omega, by omega, by omega, by simp, rfl, show 0 < 1 by omega, rfl⟩
  case round =>
    obtain ⟨k, acc, hk, hk9, hacc, rfl, rfl, HL, HD⟩ := hrel
    by_cases hlt : a + k < l.length
    · obtain ⟨b, o, rfl, hbB, hcell⟩ := hA.at_ (k := a + k) (by rw [bytes_len]; exact hlt)
      rw [bytes_get l _ hlt] at hcell
      have hcons := List.drop_eq_getElem_cons hlt
      generalize l[a + k] = x at hcell hcons
      have HD2 := hide (HD.out.trans (by rw [hcons]))
      clear hcons HD
      have h127 := and127 x
      rcases Nat.lt_or_ge k 9 with hk8 | hk8
      · by_cases hx : 128 ≤ x.toNat
        · obtain ⟨h1, h2, h3⟩ := or_step k acc (x.toNat % 128) (by omega) HL.out (by omega) (by omega)
          rw [Int.natCast_emod] at h1
          have h4 := decL_more k acc x (l.drop (a + k + 1)) (by omega) hx
          generalize acc + 2 ^ (7 * k) * (x.toNat % 128) = acc2 at h1 h2 h3 h4
          have HD3 := hide (HD2.out.trans h4)
          have H3 := hide h3
          clear h3 h4 HD2
          go_wp2_with fail
          refine ⟨⟨_, _, _, _, _, ⟨k + 1, by omega, by omega, acc2, h2, rfl, rfl, H3, HD3⟩, rfl, rfl, rfl, by first | rfl | exact int_eq_ h1, by go_num⟩, ?_⟩
          simp [intOf]; omega
        · by_cases hz : x.toNat = 0 ∧ 0 < k
          · have HF := hide (dU_no ha (by omega) (HD2.out.trans (decL_bad k acc x _ (.inr hz))))
            obtain ⟨hz1, hz2⟩ := hz
            have hz3 : x.toNat < 1 := by omega
            clear hz1 HD2
            go_wp2_with fail
            try rw [Exit.noGoto_ret]
            go_ret3
            exact ⟨got_u HF.out rfl rfl rfl, rfl⟩
          · have hx7 : x.toNat % 128 = x.toNat := by omega
            have h4 := decL_last k acc x (l.drop (a + k + 1)) (by omega) (by omega)
            rw [← hx7] at h4
            by_cases hx0 : 0 < x.toNat
            · obtain ⟨h1, h2, h3⟩ := or_step k acc (x.toNat % 128) (by omega) HL.out (by omega) (by omega)
              rw [Int.natCast_emod] at h1
              have HF := hide (dU_yes ha (HD2.out.trans h4))
              generalize acc + 2 ^ (7 * k) * (x.toNat % 128) = acc2 at h1 h2 h3 HF
              clear h2 h3 h4 HD2 hz hx7
              go_wp2_with fail
              try rw [Exit.noGoto_ret]
              go_ret3
              exact ⟨got_u HF.out (by first | rfl | exact h1) (by omega) rfl, rfl⟩
            · obtain rfl : k = 0 := by omega
              obtain rfl : acc = 0 := by have := HL.out; simp at this; omega
              obtain rfl : x = 0 := UInt8.toNat_inj.1 (by simp; omega)
              have HF := hide (dU_yes ha (HD2.out.trans h4))
              have h1 : bits .and .u8 0 127 = 0 := by decide
              have h2 : bits .or .u64 0 0 = 0 := by decide
              have hcell' : w.cell? ⟨b, o + a, none⟩ = some (.int .u8 0) := hcell
              clear h4 HD2 hz hx7 h127 hx hx0 hcell
              go_wp2_with fail
              try rw [Exit.noGoto_ret]
              go_ret3
              exact ⟨got_u HF.out (by simp) (by omega) rfl, rfl⟩
      · by_cases hx : 1 < x.toNat
        · have HF := hide (dU_no ha (by omega) (HD2.out.trans (decL_bad k acc x _ (.inl ⟨by omega, hx⟩))))
          clear HD2
          go_wp2_with fail
          try rw [Exit.noGoto_ret]
          go_ret3
          exact ⟨got_u HF.out rfl rfl rfl, rfl⟩
        · by_cases hx0 : 0 < x.toNat
          · have HB := hide (or_nine k acc x (by omega) (by omega) HL.out (by omega))
            have HF := hide (dU_yes ha (HD2.out.trans (decL_last k acc x _ (by omega) (by omega))))
            clear HD2
            go_wp2_with fail
            try rw [Exit.noGoto_ret]
            go_ret3
            exact ⟨got_u HF.out (by first | rfl | exact HB.out) (by omega) rfl, rfl⟩
          · have HF := hide (dU_no ha (by omega) (HD2.out.trans (decL_bad k acc x _ (.inr ⟨by omega, by omega⟩))))
            clear HD2
            go_wp2_with fail
            try rw [Exit.noGoto_ret]
            go_ret3
            exact ⟨got_u HF.out rfl rfl rfl, rfl⟩
    · have hcons : l.drop (a + k) = [] := List.drop_eq_nil_of_le (by omega)
      have HF := hide (dU_no (e := 4) ha (by omega) (HD.out.trans (by rw [hcons]; rfl)))
      clear HD hcons
      have hq : (((a : Int) + (k : Int)) == (l.length : Int)) = true := by simp; omega
      go_wp2_with fail
      try rw [Exit.noGoto_ret]
      go_ret3
      exact ⟨got_u HF.out rfl rfl rfl, rfl⟩

set_option maxRecDepth 100000 in
set_option maxHeartbeats 400000 in
theorem uint_out (A : Option Addr) (cap : Nat) (l : List UInt8) (a : Int) (w : World) (h : a < 0 ∨ (l.length : Int) < a) :
    Calls Try.prog 57 #[.slice A l.length cap, .int .i64 a] w fun e w' => e = .returned (.tuple #[.int .u64 ((Bin.dU l a).v : Nat), .int .i64 ((Bin.dU l a).next : Nat), .int .i64 ((Bin.dU l a).e : Nat)]) ∧ w = w' := by
  have HF := hide (dU_out h)
  by_cases h0 : a < 0
  · go_enter Try.func57, Try.ntmps57
    go_wp2_with fail
    go_step3
    go_wp2_with fail
    try rw [Exit.noGoto_ret]
    go_ret3
    exact ⟨got_u HF.out rfl rfl rfl, rfl⟩
  · have h1 : (l.length : Int) < a := by omega
    clear h
    go_enter Try.func57, Try.ntmps57
    go_wp2_with fail
    go_step3
    go_wp2_with fail
    try rw [Exit.noGoto_ret]
    go_ret3
    exact ⟨got_u HF.out rfl rfl rfl, rfl⟩
theorem uint_any (A : Option Addr) (n cap : Nat) (l : List UInt8) (a : Int) (w : World) (hn : n = l.length) (hl : l.length ≤ 1000000) (hA : Lie w w.heap.size A (bytes l)) :
    Calls Try.prog 57 #[.slice A n cap, .int .i64 a] w fun e w' => e = .returned (.tuple #[.int .u64 ((Bin.dU l a).v : Nat), .int .i64 ((Bin.dU l a).next : Nat), .int .i64 ((Bin.dU l a).e : Nat)]) ∧ w = w' := by
  subst hn
  by_cases h : a < 0 ∨ (l.length : Int) < a
  · exact uint_out A cap l a w h
  · obtain ⟨k, rfl⟩ : ∃ k : Nat, a = (k : Int) := ⟨a.toNat, by omega⟩
    exact uint_in A cap l k w hl (by omega) hA
end Go.Proofs.Ytjbdfmniiiaakaa
