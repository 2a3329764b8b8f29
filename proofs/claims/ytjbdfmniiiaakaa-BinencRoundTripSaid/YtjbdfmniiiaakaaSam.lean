/- same of the laws on layer 11 (session 1's text, laid by itself). -/
import Derived.Test.YtjbdfmniiiaakaaEx11
import Derived.BigRegion
namespace Go.Proofs.Ytjbdfmniiiaakaa
set_option linter.unusedVariables false
open Go.RowKit

theorem eq_of_take {l m : List Int} (h : l.length = m.length) (ht : l.take l.length = m.take l.length) : (l == m) = true := by
  rw [List.take_length, h, List.take_length] at ht
  simp [ht]
theorem take_step {l m : List Int} {k : Nat} (hl : k < l.length) (hm : k < m.length) (h : l.take k = m.take k) (he : l[k] = m[k]) : l.take (k + 1) = m.take (k + 1) := by
  rw [List.take_succ_eq_append_getElem hl, List.take_succ_eq_append_getElem hm, h, he]
theorem ne_at {l m : List Int} {k : Nat} (hl : k < l.length) (hm : k < m.length) (he : l[k] ≠ m[k]) : (l == m) = false := by
  apply Bool.eq_false_iff.2
  intro h
  have : l = m := by simpa using h
  subst this
  exact he rfl
theorem ne_len {l m : List Int} (h : l.length ≠ m.length) : (l == m) = false := by
  apply Bool.eq_false_iff.2
  intro h2
  have : l = m := by simpa using h2
  subst this
  exact h rfl

set_option maxRecDepth 100000 in
set_option maxHeartbeats 800000 in
theorem same11_any (A B : Option Addr) (na nb ca cb : Nat) (l m : List Int) (w : World) (hna : na = l.length) (hnb : nb = m.length) (hl : l.length ≤ 1000000) (hA : Lie w w.heap.size A (ints l)) (hB : Lie w w.heap.size B (ints m)) :
    Calls Try.prog 61 #[.slice A na ca, .slice B nb cb] w fun e w' => e = .returned (.bool (l == m)) ∧ Below w.heap.size w w' := by
  subst hna hnb
  by_cases hlen : l.length = m.length
  · go_enter Try.func61, Try.ntmps61
    go_wp2_with fail
    go_loopw [5] (fun i wr => ∃ k : Nat, k ≤ l.length ∧ i = .int .i64 k ∧ Below w.heap.size w wr ∧ Hid (l.take k = m.take k)) (fun i _ => l.length - (intOf i).toNat)
    case atStart => exact ⟨0, by omega, rfl, Below.refl _ _, rfl⟩
    case round =>
      obtain ⟨k, hk, rfl, hbw, HT⟩ := hrel
      by_cases hlt : k < l.length
      · obtain ⟨b, o, rfl, hbB, hc1⟩ := (hA.below hbw).at_ (k := k) (by rw [ints_len]; exact hlt)
        obtain ⟨b2, o2, rfl, hbB2, hc2⟩ := (hB.below hbw).at_ (k := k) (by rw [ints_len]; omega)
        have hlt2 : k < m.length := by omega
        rw [ints_get l _ hlt] at hc1
        rw [ints_get m _ hlt2] at hc2
        have hi1 : (k : Int) < (l.length : Int) := by omega
        have hi2 : (k : Int) < (m.length : Int) := by omega
        by_cases he : l[k] = m[k]
        · have HS := hide (take_step hlt hlt2 HT.out he)
          rw [he] at hc1
          generalize m[k] = x at hc1 hc2
          clear he HT
          go_wp2_with fail
          go_region
          go_wp2_with fail
          go_roundw
          case rel => exact ⟨k + 1, by omega, by go_num, hbw.drew, HS⟩
          case measure => simp [intOf]; omega
        · have HS := hide (ne_at hlt hlt2 he)
          have hne : (l[k] != m[k]) = true := by simp [he]
          generalize l[k] = x at hc1 hne
          generalize m[k] = y at hc2 hne
          clear he HT
          go_wp2_with fail
          go_region
          go_wp2_with fail
          go_ret
          rw [HS.out]
          exact ⟨rfl, hbw.drew⟩
      · obtain rfl : k = l.length := by omega
        have HS := hide (eq_of_take hlen HT.out)
        go_wp2_with fail
        go_ret
        rw [HS.out]
        exact ⟨rfl, hbw⟩
  · have HS := hide (ne_len hlen)
    have hne : ((l.length : Int) != (m.length : Int)) = true := by simp; omega
    clear hlen
    go_enter Try.func61, Try.ntmps61
    go_wp2_with fail
    go_ret
    rw [HS.out]
    exact ⟨rfl, Below.refl _ _⟩
end Go.Proofs.Ytjbdfmniiiaakaa
