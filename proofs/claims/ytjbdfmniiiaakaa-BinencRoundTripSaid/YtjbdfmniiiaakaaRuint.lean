/- The reference's Uint returns the number, the index behind it and the error, for byte strings of at most 1000000 bytes and every index. -/
import Derived.Test.YtjbdfmniiiaakaaUint
namespace Go.Proofs.Ytjbdfmniiiaakaa
set_option linter.unusedVariables false
open Go.RowKit

theorem mul_step (k acc U c : Nat) (hk : k ≤ 9) (hU : U = 2 ^ (7 * k)) (hacc : acc < 2 ^ (7 * k)) (hc : c < 128) (h9 : k = 9 → c ≤ 1) :
    ∃ p : Nat, IntKind.u64.wrap ((c : Int) * (U : Int)) = (p : Int) ∧ acc + p < 18446744073709551616 ∧ acc + p < 2 ^ (7 * (k + 1)) ∧ acc + p = acc + 2 ^ (7 * k) * c := by
  obtain ⟨_, h2, h3⟩ := or_step k acc c hk hacc hc h9
  refine ⟨2 ^ (7 * k) * c, ?_, h2, h3, rfl⟩
  rw [hU, IntKind.wrap_u64]
  have e : (c : Int) * ((2 ^ (7 * k) : Nat) : Int) = ((2 ^ (7 * k) * c : Nat) : Int) := by rw [Int.natCast_mul, Int.mul_comm]
  rw [e]
  omega
theorem unit_bd (k : Nat) (hk : k < 9) : (2 : Nat) ^ (7 * k) ≤ 72057594037927936 := by
  have : (2 : Nat) ^ (7 * k) ≤ 2 ^ 56 := Nat.pow_le_pow_right (by omega) (by omega)
  exact this

set_option maxRecDepth 100000 in
set_option maxHeartbeats 1600000 in
theorem refuint_in (A : Option Addr) (cap : Nat) (l : List UInt8) (a : Nat) (w : World) (hl : l.length ≤ 1000000) (ha : a ≤ l.length) (hA : Lie w w.heap.size A (bytes l)) :
    Calls Try.prog 71 #[.slice A l.length cap, .int .i64 a] w fun e w' => e = .returned (.tuple #[.int .u64 ((Bin.dU l a).v : Nat), .int .i64 ((Bin.dU l a).next : Nat), .int .i64 ((Bin.dU l a).e : Nat)]) ∧ w = w' := by
  go_enter Try.func71, Try.ntmps71
  go_wp2_with fail
  go_loop [7, 8, 9] (fun v u i => ∃ k acc U : Nat, a + k ≤ l.length ∧ k ≤ 9 ∧ acc < 18446744073709551616 ∧ i = .int .i64 (k : Int) ∧ v = .int .u64 acc ∧ u = .int .u64 U ∧ Hid (U = 2 ^ (7 * k)) ∧ Hid (acc < 2 ^ (7 * k)) ∧ Hid (Bin.decL 0 0 (l.drop a) = Bin.decL k acc (l.drop (a + k)))) (fun _ _ i => 10 - (intOf i).toNat)
  case atStart => exact ⟨0, 0, 1, by omega, by omega, by omega, rfl, rfl, rfl, rfl, show 0 < 1 by omega, rfl⟩
  case round =>
    obtain ⟨k, acc, U, hk, hk9, hacc, rfl, rfl, rfl, HU, HL, HD⟩ := hrel
    by_cases hlt : a + k < l.length
    · obtain ⟨b, o, rfl, hbB, hcell⟩ := hA.at_ (k := a + k) (by rw [bytes_len]; exact hlt)
      rw [bytes_get l _ hlt] at hcell
      have hcons := List.drop_eq_getElem_cons hlt
      generalize l[a + k] = x at hcell hcons
      have HD2 := hide (HD.out.trans (by rw [hcons]))
      clear hcons HD
      have hxlt := x.toNat_lt
      rcases Nat.lt_or_ge k 9 with hk8 | hk8
      · by_cases hx : 128 ≤ x.toNat
        · obtain ⟨p, h1, h2, h3, hp⟩ := mul_step k acc U (x.toNat % 128) (by omega) HU.out HL.out (by omega) (by omega)
          have h1 : IntKind.u64.wrap ((x.toNat : Int) % 128 * (U : Int)) = (p : Int) := by rw [Int.natCast_emod] at h1; exact h1
          have h4 := decL_more k acc x (l.drop (a + k + 1)) (by omega) hx
          rw [← hp] at h4
          have HD3 := hide (HD2.out.trans h4)
          have H3 := hide h3
          have HU2 : Hid (U * 128 = 2 ^ (7 * (k + 1))) := by show _ = _; rw [HU.out, Bin.pow7]
          have hUb : U ≤ 72057594037927936 := by rw [HU.out]; exact unit_bd k hk8
          clear h3 h4 HD2 hp
          go_wp2_with fail
          refine ⟨⟨_, _, _, _, _, _, ⟨k + 1, by omega, by omega, acc + p, h2, by go_num, rfl, U * 128, rfl, HU2, H3, HD3⟩, rfl, rfl, rfl, (by first | go_num | exact int_eq_ (by rw [h1, IntKind.wrap_u64]; omega)), by go_num, rfl⟩, ?_⟩
          simp [intOf]; omega
        · have hx7 : x.toNat % 128 = x.toNat := by omega
          by_cases hz : x.toNat = 0 ∧ 0 < k
          · have HF := hide (dU_no ha (by omega) (HD2.out.trans (decL_bad k acc x _ (.inr hz))))
            have hz1 : x.toNat < 1 := by omega
            have hz2 := hz.2
            clear HD2 hz hx7
            go_wp2_with fail
            go_ret3
            exact ⟨got_u HF.out rfl rfl rfl, rfl⟩
          · obtain ⟨p, h1, h2, h3, hp⟩ := mul_step k acc U (x.toNat % 128) (by omega) HU.out HL.out (by omega) (by omega)
            have h1 : IntKind.u64.wrap ((x.toNat : Int) % 128 * (U : Int)) = (p : Int) := by rw [Int.natCast_emod] at h1; exact h1
            have h4 := decL_last k acc x (l.drop (a + k + 1)) (by omega) (by omega)
            rw [← hx7, ← hp] at h4
            have HF := hide (dU_yes ha (HD2.out.trans h4))
            by_cases hx0 : 0 < x.toNat
            · clear h3 h4 HD2 hp hz hx7
              go_wp2_with fail
              go_ret3
              exact ⟨got_u HF.out (by first | omega | (rw [h1, IntKind.wrap_u64]; omega)) (by omega) rfl, rfl⟩
            · have hk0 : k < 1 := by omega
              have hx1 : ¬ 0 < x.toNat := hx0
              have HP := hide hp
              clear h3 h4 HD2 hp hz hx7
              go_wp2_with fail
              go_ret3
              refine ⟨got_u HF.out ?_ (by omega) rfl, rfl⟩
              have e0 : x.toNat = 0 := by omega
              have e1 := HP.out
              rw [e0] at e1
              simp at e1
              simp [e1]
      · by_cases hx : 1 < x.toNat
        · have HF := hide (dU_no ha (by omega) (HD2.out.trans (decL_bad k acc x _ (.inl ⟨by omega, hx⟩))))
          clear HD2
          go_wp2_with fail
          go_ret3
          exact ⟨got_u HF.out rfl rfl rfl, rfl⟩
        · by_cases hx0 : 0 < x.toNat
          · obtain ⟨p, h1, h2, h3, hp⟩ := mul_step k acc U (x.toNat % 128) (by omega) HU.out HL.out (by omega) (by omega)
            have h1 : IntKind.u64.wrap ((x.toNat : Int) % 128 * (U : Int)) = (p : Int) := by rw [Int.natCast_emod] at h1; exact h1
            have hx7 : x.toNat % 128 = x.toNat := by omega
            have h4 := decL_last k acc x (l.drop (a + k + 1)) (by omega) (by omega)
            rw [← hx7, ← hp] at h4
            have HF := hide (dU_yes ha (HD2.out.trans h4))
            clear h3 h4 HD2 hp hx7
            go_wp2_with fail
            go_ret3
            exact ⟨got_u HF.out (by first | omega | (rw [h1, IntKind.wrap_u64]; omega)) (by omega) rfl, rfl⟩
          · have HF := hide (dU_no ha (by omega) (HD2.out.trans (decL_bad k acc x _ (.inr ⟨by omega, by omega⟩))))
            clear HD2
            go_wp2_with fail
            go_ret3
            exact ⟨got_u HF.out rfl rfl rfl, rfl⟩
    · have hcons : l.drop (a + k) = [] := List.drop_eq_nil_of_le (by omega)
      have HF := hide (dU_no (e := 4) ha (by omega) (HD.out.trans (by rw [hcons]; rfl)))
      clear HD hcons
      go_wp2_with fail
      go_ret3
      exact ⟨got_u HF.out rfl rfl rfl, rfl⟩

set_option maxRecDepth 100000 in
set_option maxHeartbeats 400000 in
theorem refuint_out (A : Option Addr) (cap : Nat) (l : List UInt8) (a : Int) (w : World) (h : a < 0 ∨ (l.length : Int) < a) :
    Calls Try.prog 71 #[.slice A l.length cap, .int .i64 a] w fun e w' => e = .returned (.tuple #[.int .u64 ((Bin.dU l a).v : Nat), .int .i64 ((Bin.dU l a).next : Nat), .int .i64 ((Bin.dU l a).e : Nat)]) ∧ w = w' := by
  have HF := hide (dU_out h)
  by_cases h0 : a < 0
  · go_enter Try.func71, Try.ntmps71
    go_wp2_with fail
    go_ret3
    exact ⟨got_u HF.out rfl rfl rfl, rfl⟩
  · have h1 : (l.length : Int) < a := by omega
    clear h
    go_enter Try.func71, Try.ntmps71
    go_wp2_with fail
    go_ret3
    exact ⟨got_u HF.out rfl rfl rfl, rfl⟩
theorem refuint_any (A : Option Addr) (n cap : Nat) (l : List UInt8) (a : Int) (w : World) (hn : n = l.length) (hl : l.length ≤ 1000000) (hA : Lie w w.heap.size A (bytes l)) :
    Calls Try.prog 71 #[.slice A n cap, .int .i64 a] w fun e w' => e = .returned (.tuple #[.int .u64 ((Bin.dU l a).v : Nat), .int .i64 ((Bin.dU l a).next : Nat), .int .i64 ((Bin.dU l a).e : Nat)]) ∧ w = w' := by
  subst hn
  by_cases h : a < 0 ∨ (l.length : Int) < a
  · exact refuint_out A cap l a w h
  · obtain ⟨k, rfl⟩ : ∃ k : Nat, a = (k : Int) := ⟨a.toNat, by omega⟩
    exact refuint_in A cap l k w hl (by omega) hA
end Go.Proofs.Ytjbdfmniiiaakaa
