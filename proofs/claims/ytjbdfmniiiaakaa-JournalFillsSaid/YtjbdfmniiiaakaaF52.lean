/- The walk of the law JournalFills, for every input. -/
import Derived.Test.YtjbdfmniiiaakaaEx52
namespace Go.Proofs.Ytjbdfmniiiaakaa
set_option linter.unusedVariables false
open Go.RowKit
open Ent (E)

theorem rep_zero {e : E} (hc : Ent.check e = 0) (k : Nat) (hk : k < 4096) : Jou.err (List.replicate k e) e = 0 := by
  rcases k with _ | k
  · exact err_nil hc
  · rw [List.replicate_succ']
    exact err_zero hc (by omega) (by rw [List.length_replicate]; omega)
theorem rep_full {e : E} (hc : Ent.check e = 0) : Jou.err (List.replicate 4096 e) e = 5 := by
  rw [show (4096 : Nat) = 4095 + 1 from rfl, List.replicate_succ']
  exact err_limit hc (by omega) (by rw [List.length_replicate]; omega)

set_option maxRecDepth 100000 in
set_option maxHeartbeats 3200000 in
theorem fills_main (t : Nat) (s : ByteArray) (w : World) (ht : t ≤ 3155932800) (hs : s.size ≤ 100) :
    Calls Try.prog 15 #[.int .i64 t, .string s] w fun e w' => e = .returned (.bool true) ∧ Below w.heap.size w w' := by
  have hc : Ent.check ⟨1, t, s⟩ = 0 := by
    unfold Ent.check Ent.maxMoment
    rw [if_neg (by simp only; omega), if_neg (by simp only; omega), if_neg (by simp only; omega)]
  have HZ := hide (fun k hk => rep_zero hc k hk)
  have HF := hide (rep_full hc)
  have hlen : Hid (∀ k, (List.replicate k (E.mk 1 t s)).length = k) := hide (fun k => List.length_replicate)
  have hsn : Hid (∀ k, List.replicate k (E.mk 1 t s) ++ [E.mk 1 t s] = List.replicate (k + 1) (E.mk 1 t s)) := hide (fun k => List.replicate_succ'.symm)
  clear hc
  obtain ⟨rep, hrep⟩ : ∃ rep : Nat → List E, Hid (rep = fun k => List.replicate k (E.mk 1 t s)) := ⟨_, hide rfl⟩
  have r0 : Hid (rep 0 = []) := hide (by rw [hrep.out]; rfl)
  have rl : Hid (∀ k, (rep k).length = k) := hide (by rw [hrep.out]; exact hlen.out)
  have rz : Hid (∀ k, k < 4096 → Jou.err (rep k) ⟨1, t, s⟩ = 0) := hide (by rw [hrep.out]; exact HZ.out)
  have rf : Hid (Jou.err (rep 4096) ⟨1, t, s⟩ = 5) := hide (by rw [hrep.out]; exact HF.out)
  have rs : Hid (∀ k, rep k ++ [⟨1, t, s⟩] = rep (k + 1)) := hide (by rw [hrep.out]; exact hsn.out)
  clear hrep hlen hsn HZ HF
  go_enter Try.func15, Try.ntmps15
  go_wp2_with fail
  refine Calls.mono (new_any _) ?_
  rintro e w1 ⟨rfl, J1, b1⟩
  have J1 := hide (show JB w1 w.heap.size w.heap.size (rep 0) from ⟨Nat.le_refl _, none, by rw [r0.out]; exact J1, fun i hi => by cases hi⟩)
  go_upto_region 7 with fail
  go_loopw [6] (fun i wr => ∃ k : Nat, k ≤ 4096 ∧ i = .int .i64 k ∧ Hid (JB wr w.heap.size w.heap.size (rep k)) ∧ Below w.heap.size w wr) (fun i _ => 4096 - (intOf i).toNat)
  case atStart => exact ⟨0, by omega, rfl, J1, b1⟩
  case round =>
    obtain ⟨k, hk, rfl, hJ, hbw⟩ := hrel
    by_cases hlt : k < 4096
    · go_wp2_with fail
      refine Calls.mono (letter_any t s _) ?_
      rintro e w2 ⟨rfl, b2⟩
      have J2 := hide (hJ.out.below b2)
      have B2 := chain hbw b2
      have hz := hide (rz.out k hlt)
      clear hJ b2
      unfold ev
      go_wp2_with fail
      refine Calls.mono (jb_append (x := ⟨1, t, s⟩) J2.out B2.size (by rw [rl.out]; omega)) ?_
      rw [hz.out, if_pos rfl]
      rintro e w3 ⟨rfl, J3', b3⟩
      have J3 := hide J3'
      have B3 := B2.trans b3
      clear J3' J2 b3 B2
      go_wp2_with fail
      go_roundw
      case rel => exact ⟨k + 1, by omega, by go_num, hide (by rw [← rs.out]; exact J3.out), B3⟩
      case measure => simp [intOf]; omega
    · obtain rfl : k = 4096 := by omega
      go_wp2_with fail
      refine Calls.mono (letter_any t s _) ?_
      rintro e w2 ⟨rfl, b2⟩
      have J2 := hide (hJ.out.below b2)
      have B2 := chain hbw b2
      clear hJ b2
      unfold ev
      go_wp2_with fail
      refine Calls.mono (jb_append (x := ⟨1, t, s⟩) J2.out B2.size (by rw [rl.out]; omega)) ?_
      rw [rf.out, if_neg (by omega)]
      rintro e w3 ⟨rfl, J3', b3⟩
      have J3 := hide J3'
      have B3 := hide (B2.trans b3)
      clear J3' J2 b3 B2
      go_wp2_with fail
      refine Calls.mono (len_any _ _ _ J3.out.read) ?_
      rw [rl.out]
      rintro e w5 ⟨rfl, rfl⟩
      go_wp2_with fail
      refine Calls.mono (example52_any _) ?_
      rintro e w6 ⟨rfl, b6⟩
      go_wp2_with fail
      go_ret
      exact ⟨rfl, chain B3.out b6⟩

set_option maxRecDepth 100000 in
set_option maxHeartbeats 3200000 in
theorem walk_JournalFills (a0 : Int) (s : ByteArray) (w : World) (w0 : (Lit.int .i64 a0).wf = true) (w1 : s.size ≤ maxLen) :
    Calls Try.prog 15 #[.int .i64 a0, .string s] w fun e w' => e = .returned (.bool true) ∧ Below w.heap.size w w' := by
  unfold maxLen at w1
  by_cases h1 : a0 < 0
  · go_enter Try.func15, Try.ntmps15
    go_wp2_with (go_at_call 21; refine (example52_any _).mono ?_; rintro e w1 ⟨rfl, hb1⟩)
    go_ret
    exact ⟨rfl, hb1⟩
  by_cases h2 : 3155932800 < a0
  · go_enter Try.func15, Try.ntmps15
    go_wp2_with (go_at_call 21; refine (example52_any _).mono ?_; rintro e w1 ⟨rfl, hb1⟩)
    go_ret
    exact ⟨rfl, hb1⟩
  by_cases h3 : 100 < s.size
  · go_enter Try.func15, Try.ntmps15
    go_wp2_with (go_at_call 21; refine (example52_any _).mono ?_; rintro e w1 ⟨rfl, hb1⟩)
    go_ret
    exact ⟨rfl, hb1⟩
  obtain ⟨t, rfl⟩ : ∃ n : Nat, a0 = (n : Int) := ⟨a0.toNat, by omega⟩
  exact fills_main t s w (by omega) (by omega)
end Go.Proofs.Ytjbdfmniiiaakaa
