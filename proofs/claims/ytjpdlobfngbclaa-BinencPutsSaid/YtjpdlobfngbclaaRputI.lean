/- The reference's PutInt, PutBool and PutInts return the encodings, for integers that fit and lists of at most 10000. -/
import Derived.Test.YtjpdlobfngbclaaPutI
import Derived.Test.YtjpdlobfngbclaaRputB
namespace Go.Proofs.Ytjpdlobfngbclaa
set_option linter.unusedVariables false
open Go.RowKit

set_option maxRecDepth 100000 in
set_option maxHeartbeats 800000 in
theorem fold_any (n : Int) (w : World) (hn : Fits n) :
    Calls Try.prog 57 #[.int .i64 n] w fun e w' => e = .returned (.int .u64 (Bin.zig n : Nat)) ∧ w = w' := by
  obtain ⟨h1, h2⟩ := hn
  by_cases h0 : 0 ≤ n
  · obtain ⟨m, rfl⟩ : ∃ m : Nat, n = (m : Int) := ⟨n.toNat, by omega⟩
    have HZ : Hid (Bin.zig (m : Int) = 2 * m) := by show _ = _; unfold Bin.zig; rw [if_pos (by omega)]; omega
    go_enter Try.func57, Try.ntmps57
    go_wp2_with fail
    go_ret
    refine ⟨?_, rfl⟩
    rw [HZ.out]
    exact congrArg (fun x => Ending.returned (.int .u64 x)) (by omega)
  · obtain ⟨m, rfl⟩ : ∃ m : Nat, n = -(m : Int) - 1 := ⟨(-n - 1).toNat, by omega⟩
    have HZ : Hid (Bin.zig (-(m : Int) - 1) = 2 * m + 1) := by show _ = _; unfold Bin.zig; rw [if_neg (by omega)]; omega
    have hm : m ≤ 9223372036854775807 := by omega
    go_enter Try.func57, Try.ntmps57
    go_wp2_with fail
    go_ret
    refine ⟨?_, rfl⟩
    rw [HZ.out]
    exact congrArg (fun x => Ending.returned (.int .u64 x)) (by first | omega | (simp only [IntKind.wrap_u64, IntKind.wrap_i64]; omega))

set_option maxRecDepth 100000 in
set_option maxHeartbeats 800000 in
theorem refputint_any (n : Int) (w : World) (hn : Fits n) :
    Calls Try.prog 36 #[.int .i64 n] w (Gives w (Bin.encI n)) := by
  go_enter Try.func36, Try.ntmps36
  go_wp2_with fail
  refine (fold_any n _ hn).mono ?_
  rintro e w1 ⟨rfl, rfl⟩
  go_wp2_with fail
  refine Calls.mono (refputuint_any _ _ (zig_lt' hn)) ?_
  rintro e w1 ⟨A1, c1, rfl, hown1, hb1⟩
  go_wp2_with fail
  go_ret
  exact ⟨A1, c1, rfl, hown1, hb1⟩

set_option maxRecDepth 100000 in
set_option maxHeartbeats 800000 in
theorem refputbool_any (v : Bool) (w : World) :
    Calls Try.prog 38 #[.bool v] w (Gives w (Bin.encV v)) := by
  cases v
  · go_enter Try.func38, Try.ntmps38
    go_wp2_with fail
    go_ret
    exact ⟨_, _, rfl, own_lit (cs := bytes [0]) 1 rfl (by omega), (Below.refl _ _).alloc (Nat.le_refl _) _⟩
  · go_enter Try.func38, Try.ntmps38
    go_wp2_with fail
    go_ret
    exact ⟨_, _, rfl, own_lit (cs := bytes [1]) 1 rfl (by omega), (Below.refl _ _).alloc (Nat.le_refl _) _⟩

set_option maxRecDepth 100000 in
set_option maxHeartbeats 1600000 in
theorem refputints_any (A : Option Addr) (n cap : Nat) (l : List Int) (w : World) (hn : n = l.length) (hl : l.length ≤ 10000) (hf : ∀ x ∈ l, Fits x) (hA : Lie w w.heap.size A (ints l)) :
    Calls Try.prog 43 #[.slice A n cap] w (Gives w (Bin.encL l)) := by
  subst hn
  obtain ⟨i0, hi, hz0, hz1, hz2⟩ := info_parts info_b
  have HF := hide hf
  have H0 := hide (intsTo_zero l)
  have HA0 := hide (intsTo_all l)
  clear hf
  go_enter Try.func43, Try.ntmps43
  go_wp2_with fail
  refine Calls.mono (refputuint_any l.length _ (by omega)) ?_
  rintro e w1 ⟨A1, c1, rfl, hown1, hb1⟩
  rw [← H0.out] at hown1 ⊢
  go_wp2_with fail
  go_loopw [3, 4] (fun v i wr => ∃ (k : Nat) (B : Option Addr) (c : Nat), k ≤ l.length ∧ i = .int .i64 k ∧ v = .slice B (intsTo l k).length c ∧ wr.ownsRow w.heap.size 5 1 (.slice B (intsTo l k).length c) (intsTo l k).length (bytes (intsTo l k)) ∧ Below w.heap.size w wr) (fun _ i _ => l.length - (intOf i).toNat)
  case atStart => exact ⟨0, A1, c1, by omega, rfl, rfl, hown1, hb1⟩
  case round =>
    obtain ⟨k, B, c, hk, rfl, rfl, hown, hbw⟩ := hrel
    by_cases hlt : k < l.length
    · obtain ⟨b, o, rfl, hbB, hcell⟩ := (hA.below hbw).at_ (k := k) (by rw [ints_len]; exact hlt)
      rw [ints_get l _ hlt] at hcell
      have hx := HF.out l[k] (List.getElem_mem hlt)
      have hsucc := intsTo_succ l k hlt
      generalize l[k] = x at hcell hx hsucc
      have hxl := Bin.enc_len (Bin.zig x)
      have hkl := intsTo_len l k hk
      have HS := hide hsucc
      have HX := hide hx
      have HL := hide (bytes_len (Bin.encI x))
      have hxl2 : (Bin.encI x).length ≤ 10 := hxl.2
      clear hsucc hx hxl
      go_wp2_with fail
      refine Calls.mono (refputint_any x _ HX.out) ?_
      rintro e w2 ⟨A2, c2, rfl, hown2, hb2⟩
      have ho2 := own_below hown hb2
      have hb12 := chain hbw hb2
      go_wp2_with (at_builtin; refine wpList_app rfl (.tmp 15) (.tmp 20) _ rfl w.heap.size 5 i0 _ 1 1 Try.underlying22 hi hz0 hz1 hz2 rfl (by omega) B (intsTo l k).length c (bytes (intsTo l k)) rfl ho2 w2.heap.size A2 (Bin.encI x).length c2 (bytes (Bin.encI x)) rfl (by rw [HL.out]; omega) (Lie.of_own hown2) (bytes_one _) (by omega) (by unfold maxLen; omega) hb12.size w hb12 ?_; intro A3 c3 w3 HA3 hb3)
      go_roundw
      case rel =>
        have e : (intsTo l (k + 1)).length = (intsTo l k).length + (Bin.encI x).length := by rw [HS.out, List.length_append]
        refine ⟨k + 1, A3, c3, by omega, by go_num, by rw [e], ?_, hb3⟩
        rw [e, HS.out, bytes_append]
        exact HA3.out.own
      case measure => simp [intOf]; omega
    · obtain rfl : k = l.length := by omega
      go_wp2_with fail
      go_ret
      rw [HA0.out] at hown ⊢
      exact ⟨B, c, rfl, hown, hbw⟩
end Go.Proofs.Ytjpdlobfngbclaa
