/- PutInt, PutBool and PutInts return the encodings, for integers that fit and lists of at most 10000. -/
import Derived.Test.YtjbdfmniiiaakaaPutB
namespace Go.Proofs.Ytjbdfmniiiaakaa
set_option linter.unusedVariables false
open Go.RowKit

theorem xor_ones (x : Nat) (h : x < 18446744073709551616) : x ^^^ 18446744073709551615 = 18446744073709551615 - x := by
  have h1 := congrArg BitVec.toNat (BitVec.xor_allOnes (x := BitVec.ofNat 64 x))
  rw [BitVec.toNat_xor, BitVec.toNat_not, BitVec.toNat_ofNat, BitVec.toNat_allOnes, Nat.mod_eq_of_lt (by omega)] at h1
  exact h1
theorem zig_pos (m : Nat) (hm : m ≤ 9223372036854775807) : bits .xor .u64 ((m : Int) * 2) ((m : Int) / 9223372036854775808) = ((Bin.zig (m : Int) : Nat) : Int) := by
  have e1 : (m : Int) / 9223372036854775808 = ((0 : Nat) : Int) := by omega
  have e2 : (m : Int) * 2 = ((m * 2 : Nat) : Int) := by omega
  have e3 : Bin.zig (m : Int) = m * 2 := by unfold Bin.zig; rw [if_pos (by omega)]; omega
  rw [e1, e2, u64_xor_nat _ _ (by omega) (by omega), Nat.xor_zero, e3]
theorem zig_neg (m : Nat) (hm : m ≤ 9223372036854775807) : bits .xor .u64 (IntKind.u64.wrap (IntKind.u64.wrap (-(m : Int) - 1) * 2)) (IntKind.u64.wrap ((-(m : Int) - 1) / 9223372036854775808)) = ((Bin.zig (-(m : Int) - 1) : Nat) : Int) := by
  have e1 : (-(m : Int) - 1) / 9223372036854775808 = -1 := by omega
  have e3 : Bin.zig (-(m : Int) - 1) = 2 * m + 1 := by unfold Bin.zig; rw [if_neg (by omega)]; omega
  have e4 : IntKind.u64.wrap (-1) = ((18446744073709551615 : Nat) : Int) := by rw [IntKind.wrap_u64]; omega
  have e5 : IntKind.u64.wrap (IntKind.u64.wrap (-(m : Int) - 1) * 2) = ((18446744073709551614 - 2 * m : Nat) : Int) := by
    simp only [IntKind.wrap_u64]
    omega
  rw [e1, e4, e5, u64_xor_nat _ _ (by omega) (by omega), xor_ones _ (by omega), e3]
  omega
theorem zig_lt' {n : Int} (h : Fits n) : Bin.zig n < 18446744073709551616 := Bin.zig_lt n h.1 h.2

set_option maxRecDepth 100000 in
set_option maxHeartbeats 800000 in
theorem putint_any (n : Int) (w : World) (hn : Fits n) :
    Calls Try.prog 34 #[.int .i64 n] w (Gives w (Bin.encI n)) := by
  have hz := zig_lt' hn
  obtain ⟨h1, h2⟩ := hn
  by_cases h0 : 0 ≤ n
  · obtain ⟨m, rfl⟩ : ∃ m : Nat, n = (m : Int) := ⟨n.toNat, by omega⟩
    have HZ := hide (zig_pos m (by omega))
    go_enter Try.func34, Try.ntmps34
    go_wp2_with fail
    rw [HZ.out]
    refine Calls.mono (putuint_any _ _ hz) ?_
    rintro e w1 ⟨A1, c1, rfl, hown1, hb1⟩
    go_wp2_with fail
    go_ret
    exact ⟨A1, c1, rfl, hown1, hb1⟩
  · obtain ⟨m, rfl⟩ : ∃ m : Nat, n = -(m : Int) - 1 := ⟨(-n - 1).toNat, by omega⟩
    have HZ := hide (zig_neg m (by omega))
    have hm : m ≤ 9223372036854775807 := by omega
    clear h1 h2 h0
    go_enter Try.func34, Try.ntmps34
    go_wp2_with fail
    rw [HZ.out]
    refine Calls.mono (putuint_any _ _ hz) ?_
    rintro e w1 ⟨A1, c1, rfl, hown1, hb1⟩
    go_wp2_with fail
    go_ret
    exact ⟨A1, c1, rfl, hown1, hb1⟩

theorem own_lit {w : World} {t : TypeId} {cs : List Value} (n : Nat) (hn : cs.length = n) (hm : n ≤ 1000000) : (w.alloc (.cells cs.toArray t)).ownsRow w.heap.size t 1 (.slice (some ⟨w.heap.size, 0, none⟩) n n) n cs :=
  own_of_blk (Blk.new w t cs.toArray) (Nat.le_refl _) hn (by unfold maxLen; omega)

set_option maxRecDepth 100000 in
set_option maxHeartbeats 800000 in
theorem putbool_any (v : Bool) (w : World) :
    Calls Try.prog 60 #[.bool v] w (Gives w (Bin.encV v)) := by
  cases v
  · go_enter Try.func60, Try.ntmps60
    go_wp2_with fail
    go_ret
    exact ⟨_, _, rfl, own_lit (cs := bytes [0]) 1 rfl (by omega), (Below.refl _ _).alloc (Nat.le_refl _) _⟩
  · go_enter Try.func60, Try.ntmps60
    go_wp2_with fail
    go_ret
    exact ⟨_, _, rfl, own_lit (cs := bytes [1]) 1 rfl (by omega), (Below.refl _ _).alloc (Nat.le_refl _) _⟩

theorem encIs_app (l m : List Int) : Bin.encIs (l ++ m) = Bin.encIs l ++ Bin.encIs m := by
  induction l with
  | nil => rfl
  | cons n l ih => simp [Bin.encIs, ih]
theorem encIs_len (l : List Int) : (Bin.encIs l).length ≤ 10 * l.length := by
  induction l with
  | nil => simp [Bin.encIs]
  | cons n l ih =>
    have := Bin.enc_len (Bin.zig n)
    simp only [Bin.encIs, List.length_append, List.length_cons, Bin.encI]
    omega
/-- the bytes behind k elements. -/
def intsTo (l : List Int) (k : Nat) : List UInt8 := Bin.enc l.length ++ Bin.encIs (l.take k)
theorem intsTo_len (l : List Int) (k : Nat) (hk : k ≤ l.length) : (intsTo l k).length ≤ 10 + 10 * k := by
  have h1 := Bin.enc_len l.length
  have h2 := encIs_len (l.take k)
  rw [List.length_take, Nat.min_eq_left hk] at h2
  unfold intsTo
  rw [List.length_append]
  omega
theorem intsTo_succ (l : List Int) (k : Nat) (hk : k < l.length) : intsTo l (k + 1) = intsTo l k ++ Bin.encI l[k] := by
  unfold intsTo
  rw [List.take_succ_eq_append_getElem hk, encIs_app, List.append_assoc]
  simp [Bin.encIs]
theorem intsTo_all (l : List Int) : intsTo l l.length = Bin.encL l := by unfold intsTo Bin.encL; rw [List.take_length]
theorem intsTo_zero (l : List Int) : intsTo l 0 = Bin.enc l.length := by unfold intsTo; simp [Bin.encIs]

set_option maxRecDepth 100000 in
set_option maxHeartbeats 1600000 in
theorem putints_any (A : Option Addr) (n cap : Nat) (l : List Int) (w : World) (hn : n = l.length) (hl : l.length ≤ 10000) (hf : ∀ x ∈ l, Fits x) (hA : Lie w w.heap.size A (ints l)) :
    Calls Try.prog 38 #[.slice A n cap] w (Gives w (Bin.encL l)) := by
  subst hn
  obtain ⟨i0, hi, hz0, hz1, hz2⟩ := info_parts info_b
  have HF := hide hf
  have H0 := hide (intsTo_zero l)
  have HA0 := hide (intsTo_all l)
  clear hf
  go_enter Try.func38, Try.ntmps38
  go_wp2_with fail
  refine Calls.mono (putuint_any l.length _ (by omega)) ?_
  rintro e w1 ⟨A1, c1, rfl, hown1, hb1⟩
  rw [← H0.out] at hown1 ⊢
  go_wp2_with fail
  go_loopw [3, 12] (fun v i wr => ∃ (k : Nat) (B : Option Addr) (c : Nat), k ≤ l.length ∧ i = .int .i64 k ∧ v = .slice B (intsTo l k).length c ∧ wr.ownsRow w.heap.size 5 1 (.slice B (intsTo l k).length c) (intsTo l k).length (bytes (intsTo l k)) ∧ Below w.heap.size w wr) (fun _ i _ => l.length - (intOf i).toNat)
  case atStart => exact ⟨0, A1, c1, by omega, rfl, rfl, hown1, hb1⟩
  case round =>
    obtain ⟨k, B, c, hk, rfl, rfl, hown, hbw⟩ := hrel
    by_cases hlt : k < l.length
    · obtain ⟨b, o, rfl, hbB, hcell⟩ := (hA.below hbw).at_ (k := k) (by rw [ints_len]; exact hlt)
      rw [ints_get l _ hlt] at hcell
      have hx := HF.out l[k] (List.getElem_mem hlt)
      have hsucc := intsTo_succ l k hlt
      generalize l[k] = x at hcell hx hsucc
      have hxl := Bin.enc_len (Bin.zig x)
      have hkl := intsTo_len l k hk
      have HS := hide hsucc
      have HX := hide hx
      have HL := hide (bytes_len (Bin.encI x))
      have hxl2 : (Bin.encI x).length ≤ 10 := hxl.2
      clear hsucc hx hxl
      go_wp2_with fail
      refine Calls.mono (putint_any x _ HX.out) ?_
      rintro e w2 ⟨A2, c2, rfl, hown2, hb2⟩
      have ho2 := own_below hown hb2
      have hb12 := chain hbw hb2
      go_wp2_with (at_builtin; refine wpList_app rfl (.tmp 16) (.tmp 18) _ rfl w.heap.size 5 i0 _ 1 1 Try.underlying22 hi hz0 hz1 hz2 rfl (by omega) B (intsTo l k).length c (bytes (intsTo l k)) rfl ho2 w2.heap.size A2 (Bin.encI x).length c2 (bytes (Bin.encI x)) rfl (by rw [HL.out]; omega) (Lie.of_own hown2) (bytes_one _) (by omega) (by unfold maxLen; omega) hb12.size w hb12 ?_; intro A3 c3 w3 HA3 hb3)
      go_roundw
      case rel =>
        have e : (intsTo l (k + 1)).length = (intsTo l k).length + (Bin.encI x).length := by rw [HS.out, List.length_append]
        refine ⟨k + 1, A3, c3, by omega, by go_num, by rw [e], ?_, hb3⟩
        rw [e, HS.out, bytes_append]
        exact HA3.out.own
      case measure => simp [intOf]; omega
    · obtain rfl : k = l.length := by omega
      go_wp2_with fail
      go_ret
      rw [HA0.out] at hown ⊢
      exact ⟨B, c, rfl, hown, hbw⟩
end Go.Proofs.Ytjbdfmniiiaakaa
