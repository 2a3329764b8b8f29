/- The walks of the laws BinencInts, BinencBytes, BinencBools and BinencLists, for every input. -/
import Derived.Test.YtjpdlobfngbclabEx11
import Derived.Test.YtjpdlobfngbclabRint
import Derived.BigRegion
namespace Go.Proofs.Ytjpdlobfngbclab
set_option linter.unusedVariables false
open Go.RowKit

theorem eq_of_take {l m : List Int} (h : l.length = m.length) (ht : l.take l.length = m.take l.length) : (l == m) = true := by
  rw [List.take_length, h, List.take_length] at ht
  simp [ht]
theorem take_step {l m : List Int} {k : Nat} (hl : k < l.length) (hm : k < m.length) (h : l.take k = m.take k) (he : l[k] = m[k]) : l.take (k + 1) = m.take (k + 1) := by
  rw [List.take_succ_eq_append_getElem hl, List.take_succ_eq_append_getElem hm, h, he]
theorem ne_at {l m : List Int} {k : Nat} (hl : k < l.length) (hm : k < m.length) (he : l[k] ≠ m[k]) : (l == m) = false := by
  apply Bool.eq_false_iff.2
  intro h
  have : l = m := by simpa using h
  subst this
  exact he rfl
theorem ne_len {l m : List Int} (h : l.length ≠ m.length) : (l == m) = false := by
  apply Bool.eq_false_iff.2
  intro h2
  have : l = m := by simpa using h2
  subst this
  exact h rfl

set_option maxRecDepth 100000 in
set_option maxHeartbeats 800000 in
theorem same11_any (A B : Option Addr) (na nb ca cb : Nat) (l m : List Int) (w : World) (hna : na = l.length) (hnb : nb = m.length) (hl : l.length ≤ 1000000) (hA : Lie w w.heap.size A (ints l)) (hB : Lie w w.heap.size B (ints m)) :
    Calls Try.prog 31 #[.slice A na ca, .slice B nb cb] w fun e w' => e = .returned (.bool (l == m)) ∧ Below w.heap.size w w' := by
  subst hna hnb
  by_cases hlen : l.length = m.length
  · go_enter Try.func31, Try.ntmps31
    go_wp2_with fail
    go_loopw [5] (fun i wr => ∃ k : Nat, k ≤ l.length ∧ i = .int .i64 k ∧ Below w.heap.size w wr ∧ Hid (l.take k = m.take k)) (fun i _ => l.length - (intOf i).toNat)
    case atStart => exact ⟨0, by omega, rfl, Below.refl _ _, rfl⟩
    case round =>
      obtain ⟨k, hk, rfl, hbw, HT⟩ := hrel
      by_cases hlt : k < l.length
      · obtain ⟨b, o, rfl, hbB, hc1⟩ := (hA.below hbw).at_ (k := k) (by rw [ints_len]; exact hlt)
        obtain ⟨b2, o2, rfl, hbB2, hc2⟩ := (hB.below hbw).at_ (k := k) (by rw [ints_len]; omega)
        have hlt2 : k < m.length := by omega
        rw [ints_get l _ hlt] at hc1
        rw [ints_get m _ hlt2] at hc2
        have hi1 : (k : Int) < (l.length : Int) := by omega
        have hi2 : (k : Int) < (m.length : Int) := by omega
        by_cases he : l[k] = m[k]
        · have HS := hide (take_step hlt hlt2 HT.out he)
          rw [he] at hc1
          generalize m[k] = x at hc1 hc2
          clear he HT
          go_wp2_with fail
          go_region
          go_wp2_with fail
          go_roundw
          case rel => exact ⟨k + 1, by omega, by go_num, hbw.drew, HS⟩
          case measure => simp [intOf]; omega
        · have HS := hide (ne_at hlt hlt2 he)
          have hne : (l[k] != m[k]) = true := by simp [he]
          generalize l[k] = x at hc1 hne
          generalize m[k] = y at hc2 hne
          clear he HT
          go_wp2_with fail
          go_region
          go_wp2_with fail
          go_ret
          rw [HS.out]
          exact ⟨rfl, hbw.drew⟩
      · obtain rfl : k = l.length := by omega
        have HS := hide (eq_of_take hlen HT.out)
        go_wp2_with fail
        go_ret
        rw [HS.out]
        exact ⟨rfl, hbw⟩
  · have HS := hide (ne_len hlen)
    have hne : ((l.length : Int) != (m.length : Int)) = true := by simp; omega
    clear hlen
    go_enter Try.func31, Try.ntmps31
    go_wp2_with fail
    go_ret
    rw [HS.out]
    exact ⟨rfl, Below.refl _ _⟩

set_option maxRecDepth 100000 in
set_option maxHeartbeats 800000 in
theorem walk_BinencInts (a0 : Option Addr) (len0 cap0 : Nat) (z0 : List Int) (a1 : Int) (w : World) (w0 : IsRow .u8 w a0 len0 cap0 z0) (w1 : (Lit.int .i64 a1).wf = true) :
    Calls Try.prog 4 #[.slice a0 len0 cap0, .int .i64 a1] w fun e w' => e = .returned (.bool true) ∧ Below w.heap.size w w' := by
  obtain ⟨l, rfl, _, hA⟩ := row_bytes w0
  clear w0 w1
  by_cases hl : 4096 < l.length
  · go_enter Try.func4, Try.ntmps4
    go_wp2_with (go_at_call 22; refine (example11_any _).mono ?_; rintro e w1 ⟨rfl, hb1⟩)
    go_ret
    exact ⟨rfl, hb1⟩
  · have h1 := int_any a0 _ cap0 l a1 w rfl (by omega) hA
    have h2 := refint_any a0 _ cap0 l a1 w rfl (by omega) hA
    generalize Bin.dI l a1 = g at h1 h2
    obtain ⟨u, next, er⟩ := g
    go_enter Try.func4, Try.ntmps4
    go_wp2_with fail
    refine Calls.mono h1 ?_
    rintro e w1 ⟨rfl, rfl⟩
    go_wp2_with fail
    refine Calls.mono h2 ?_
    rintro e w1 ⟨rfl, rfl⟩
    go_wp2_with (go_at_call 22; refine (example11_any _).mono ?_; rintro e w1 ⟨rfl, hb1⟩)
    go_ret
    exact ⟨rfl, hb1⟩

set_option maxRecDepth 100000 in
set_option maxHeartbeats 800000 in
theorem walk_BinencBools (a0 : Option Addr) (len0 cap0 : Nat) (z0 : List Int) (a1 : Int) (w : World) (w0 : IsRow .u8 w a0 len0 cap0 z0) (w1 : (Lit.int .i64 a1).wf = true) :
    Calls Try.prog 6 #[.slice a0 len0 cap0, .int .i64 a1] w fun e w' => e = .returned (.bool true) ∧ Below w.heap.size w w' := by
  obtain ⟨l, rfl, _, hA⟩ := row_bytes w0
  clear w0 w1
  by_cases hl : 4096 < l.length
  · go_enter Try.func6, Try.ntmps6
    go_wp2_with (go_at_call 22; refine (example11_any _).mono ?_; rintro e w1 ⟨rfl, hb1⟩)
    go_ret
    exact ⟨rfl, hb1⟩
  · have h1 := bool_any a0 _ cap0 l a1 w rfl (by omega) hA
    have h2 := refbool_any a0 _ cap0 l a1 w rfl (by omega) hA
    generalize Bin.dV l a1 = g at h1 h2
    obtain ⟨u, next, er⟩ := g
    go_enter Try.func6, Try.ntmps6
    go_wp2_with fail
    refine Calls.mono h1 ?_
    rintro e w1 ⟨rfl, rfl⟩
    go_wp2_with fail
    refine Calls.mono h2 ?_
    rintro e w1 ⟨rfl, rfl⟩
    go_wp2_with (go_at_call 22; refine (example11_any _).mono ?_; rintro e w1 ⟨rfl, hb1⟩)
    go_ret
    exact ⟨rfl, hb1⟩

set_option maxRecDepth 100000 in
set_option maxHeartbeats 800000 in
theorem walk_BinencBytes (a0 : Option Addr) (len0 cap0 : Nat) (z0 : List Int) (a1 a2 : Int) (w : World) (w0 : IsRow .u8 w a0 len0 cap0 z0) (w1 : (Lit.int .i64 a1).wf = true) (w2 : (Lit.int .i64 a2).wf = true) :
    Calls Try.prog 5 #[.slice a0 len0 cap0, .int .i64 a1, .int .i64 a2] w fun e w' => e = .returned (.bool true) ∧ Below w.heap.size w w' := by
  obtain ⟨l, rfl, hcap, hA⟩ := row_bytes w0
  have hf := fits_wf w2
  clear w0 w1 w2
  by_cases hl : 4096 < l.length
  · go_enter Try.func5, Try.ntmps5
    go_wp2_with (go_at_call 22; refine (example11_any _).mono ?_; rintro e w1 ⟨rfl, hb1⟩)
    go_ret
    exact ⟨rfl, hb1⟩
  · have h1 := bytes_any a0 _ cap0 l a1 a2 w rfl (by omega) hcap hf hA
    have h2 := fun (w1 : World) (hb : Below w.heap.size w w1) => refbytes_any a0 _ cap0 l a1 a2 w1 rfl (by omega) hcap hf (lie_on hA hb)
    generalize Bin.dB l a1 a2 = g at h1 h2
    obtain ⟨v, next, er⟩ := g
    clear hf
    go_enter Try.func5, Try.ntmps5
    go_wp2_with fail
    refine Calls.mono h1 ?_
    intro e w1 h
    obtain ⟨A1, c1, rfl, l1, b1⟩ := gotb_lit h rfl rfl
    clear h h1
    go_wp2_with fail
    refine Calls.mono (h2 _ b1) ?_
    intro e w2 h
    obtain ⟨A2, c2, rfl, l2, b2⟩ := gotb_lit h rfl rfl
    have k1 := str_of (c := c1) (lie_on l1 b2) rfl
    have k2 := str_of (c := c2) l2 rfl
    have b12 := chain b1 b2
    clear h h2 l1 l2 b1 b2
    go_wp2_with (go_at_call 22; refine (example11_any _).mono ?_; rintro e w1 ⟨rfl, hb1⟩)
    go_ret
    exact ⟨rfl, chain b12 hb1⟩

theorem dIs_len (l : List UInt8) (n a : Nat) (ha : a ≤ l.length) : (Bin.dIs l n a).v.length ≤ l.length := by
  have key : ∀ (n a : Nat), a ≤ l.length → (Bin.dIs l n a).v.length + a ≤ l.length := by
    intro n
    induction n with
    | zero => intro a ha; simpa [Bin.dIs] using ha
    | succ n ih =>
      intro a ha
      unfold Bin.dIs
      split
      · rename_i h1
        obtain ⟨_, h3, h4, _, _⟩ := Bin.dI_ok l a h1
        simp only [Int.toNat_natCast] at h3
        split
        · have := ih _ h4
          simp only [List.length_cons]
          omega
        · simpa using ha
      · simpa using ha
  have := key n a ha
  omega
theorem dL_len (l : List UInt8) (a most : Int) : (Bin.dL l a most).v.length ≤ l.length := by
  unfold Bin.dL
  split
  · rename_i h
    obtain ⟨_, _, h3, _⟩ := Bin.dLen_ok l a most h
    exact dIs_len l _ _ h3
  · simp

set_option maxRecDepth 100000 in
set_option maxHeartbeats 800000 in
theorem walk_BinencLists (a0 : Option Addr) (len0 cap0 : Nat) (z0 : List Int) (a1 a2 : Int) (w : World) (w0 : IsRow .u8 w a0 len0 cap0 z0) (w1 : (Lit.int .i64 a1).wf = true) (w2 : (Lit.int .i64 a2).wf = true) :
    Calls Try.prog 7 #[.slice a0 len0 cap0, .int .i64 a1, .int .i64 a2] w fun e w' => e = .returned (.bool true) ∧ Below w.heap.size w w' := by
  obtain ⟨l, rfl, hcap, hA⟩ := row_bytes w0
  have hf := fits_wf w2
  clear w0 w1 w2
  by_cases hl : 4096 < l.length
  · go_enter Try.func7, Try.ntmps7
    go_wp2_with (go_at_call 22; refine (example11_any _).mono ?_; rintro e w1 ⟨rfl, hb1⟩)
    go_ret
    exact ⟨rfl, hb1⟩
  · have h1 := ints_any a0 _ cap0 l a1 a2 w rfl (by omega) hf hA
    have h2 := fun (w1 : World) (hb : Below w.heap.size w w1) => refints_any a0 _ cap0 l a1 a2 w1 rfl (by omega) hf (lie_on hA hb)
    have hlen := dL_len l a1 a2
    generalize Bin.dL l a1 a2 = g at h1 h2 hlen
    obtain ⟨v, next, er⟩ := g
    simp only at hlen
    clear hf
    go_enter Try.func7, Try.ntmps7
    go_wp2_with fail
    refine Calls.mono h1 ?_
    intro e w1 h
    obtain ⟨A1, c1, rfl, l1, b1⟩ := gotl_lit h rfl rfl
    clear h h1
    go_wp2_with fail
    refine Calls.mono (h2 _ b1) ?_
    intro e w2 h
    obtain ⟨A2, c2, rfl, l2, b2⟩ := gotl_lit h rfl rfl
    have l1 := lie_on l1 b2
    have b12 := chain b1 b2
    clear h h2 b1 b2
    go_wp2_with fail
    refine Calls.mono (same11_any A1 A2 _ _ c1 c2 v v _ rfl rfl (by omega) l1 l2) ?_
    rintro e w3 ⟨rfl, b3⟩
    rw [beq_self_eq_true]
    go_wp2_with (go_at_call 22; refine (example11_any _).mono ?_; rintro e w1 ⟨rfl, hb1⟩)
    go_ret
    exact ⟨rfl, chain (chain b12 b3) hb1⟩
end Go.Proofs.Ytjpdlobfngbclab
