/- The reference's Xor returns the exclusive or of three byte strings of one length of at most 1000000 bytes. -/
import Derived.Test.YtjpdlobfngbclaaRef10
namespace Go.Proofs.Ytjpdlobfngbclaa
set_option linter.unusedVariables false
open Go.RowKit

def xorTo (a b c : List UInt8) (k : Nat) : List UInt8 := (List.range k).map fun i => a.getD i 0 ^^^ b.getD i 0 ^^^ c.getD i 0
theorem xorTo_len (a b c : List UInt8) (k : Nat) : (xorTo a b c k).length = k := by simp [xorTo]
theorem xorTo_succ (a b c : List UInt8) (k : Nat) : xorTo a b c (k + 1) = xorTo a b c k ++ [a.getD k 0 ^^^ b.getD k 0 ^^^ c.getD k 0] := by simp [xorTo, List.range_succ]
theorem xor_byte (x y : UInt8) : bits .xor .u8 (x.toNat : Int) (y.toNat : Int) = ((x ^^^ y).toNat : Int) := by
  rw [u8_xor_nat _ _ x.toNat_lt y.toNat_lt, UInt8.toNat_xor]

set_option maxRecDepth 100000 in
set_option maxHeartbeats 1600000 in
theorem xor_any (A B C : Option Addr) (n ca cb cc : Nat) (a b c : List UInt8) (w : World) (hn : n = a.length) (hb : b.length = a.length) (hc : c.length = a.length) (hl : a.length ≤ 1000000)
    (hA : Lie w w.heap.size A (bytes a)) (hB : Lie w w.heap.size B (bytes b)) (hC : Lie w w.heap.size C (bytes c)) :
    Calls Try.prog 26 #[.slice A n ca, .slice B n cb, .slice C n cc] w fun e w' => ∃ D d, e = .returned (.slice D a.length d) ∧
      w'.ownsRow w.heap.size 5 1 (.slice D a.length d) a.length (bytes (xorTo a b c a.length)) ∧ Below w.heap.size w w' := by
  subst hn
  have HB := hide hb
  have HC := hide hc
  clear hb hc
  obtain ⟨i0, hi, hz0, hz1, hz2⟩ := info_parts info_u8
  go_enter Try.func26, Try.ntmps26
  go_wp2_with fail
  go_loopw [7, 8] (fun v i wr => ∃ (k : Nat) (D : Option Addr) (d : Nat), k ≤ a.length ∧ i = .int .i64 k ∧ v = .slice D k d ∧ wr.ownsRow w.heap.size 5 1 (.slice D k d) k (bytes (xorTo a b c k)) ∧ Below w.heap.size w wr) (fun _ i _ => a.length - (intOf i).toNat)
  case atStart => exact ⟨0, none, 0, by omega, rfl, rfl, own_nil, Below.refl _ _⟩
  case round =>
    obtain ⟨k, D, d, hk, rfl, rfl, hown, hbw⟩ := hrel
    by_cases hlt : k < a.length
    · obtain ⟨ba, oa, rfl, hba, hca⟩ := (hA.below hbw).at_ (k := k) (by rw [bytes_len]; exact hlt)
      obtain ⟨bb, ob, rfl, hbb, hcb⟩ := (hB.below hbw).at_ (k := k) (by rw [bytes_len, HB.out]; exact hlt)
      obtain ⟨bc, oc, rfl, hbc, hcc⟩ := (hC.below hbw).at_ (k := k) (by rw [bytes_len, HC.out]; exact hlt)
      have hbl : k < b.length := by rw [HB.out]; exact hlt
      have hcl : k < c.length := by rw [HC.out]; exact hlt
      rw [bytes_get _ _ hlt] at hca
      rw [bytes_get _ _ hbl] at hcb
      rw [bytes_get _ _ hcl] at hcc
      obtain ⟨z, hz⟩ : ∃ z : UInt8, z = a[k] ^^^ b[k] ^^^ c[k] := ⟨_, rfl⟩
      have x1 : bits .xor .u8 (a[k].toNat : Int) (b[k].toNat : Int) = ((a[k].toNat ^^^ b[k].toNat : Nat) : Int) := u8_xor_nat _ _ a[k].toNat_lt b[k].toNat_lt
      have x2 : bits .xor .u8 ((a[k].toNat ^^^ b[k].toNat : Nat) : Int) (c[k].toNat : Int) = (z.toNat : Int) := by
        rw [hz, ← xor_byte, UInt8.toNat_xor]
      have hzz : xorTo a b c (k + 1) = xorTo a b c k ++ [z] := by
        rw [xorTo_succ, hz]
        simp [List.getD, hlt, hbl, hcl]
      have HZ := hide hzz
      clear hz hzz
      have hlti : (k : Int) < (a.length : Int) := by omega
      go_wp2_with fail
      go_region_law (refine step_app rfl (.tmp 15) (.tmp 30) _ rfl w.heap.size 5 i0 _ 1 1 Try.underlying22 hi hz0 hz1 hz2 rfl (by omega) D k d (bytes (xorTo a b c k)) (by simp [Act.eval]) ((hown.alloc _).drew) (wr.heap.size + 1) (some ⟨wr.heap.size, 0, none⟩) 1 1 (bytes [z]) (by simp [Act.eval]) rfl (Lie.drew (Lie.new wr (bytes [z]) _)) (bytes_one [z]) (by omega) (by unfold maxLen; omega) (by have := hbw.size; simp; omega) w ((hbw.alloc hbw.size _).drew) ?_; intro D2 d2 w2 HA2 hb2)
      all_goals
       go_wp2_with fail
       go_roundw
       case rel => exact ⟨k + 1, D2, d2, by omega, by go_num, rfl, by rw [HZ.out, bytes_append]; exact HA2.out.own, hb2⟩
       case measure => simp [intOf]; omega
    · obtain rfl : k = a.length := by omega
      go_wp2_with fail
      go_ret
      exact ⟨D, d, rfl, hown, hbw⟩
end Go.Proofs.Ytjpdlobfngbclaa
