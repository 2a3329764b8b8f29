/- The walk of the law JournalCuts, for every input. -/
import Derived.Test.YtjbdfmniiiaakaaJsm
import Derived.Deep.RegionHeld3
namespace Go.Proofs.Ytjbdfmniiiaakaa
set_option linter.unusedVariables false
open Go.RowKit
open Ent (E)
open Jou (encJ)

set_option maxRecDepth 100000 in
set_option maxHeartbeats 6400000 in
theorem cuts_main (a0 : Option Addr) (cap0 : Nat) (l : List E) (n : Int) (w : World) (hs : smallB l = true) (hG : ∀ x ∈ l, GoodE x) (hA : Lie w w.heap.size a0 (flat l)) :
    Calls Try.prog 16 #[.slice a0 l.length cap0, .int .i64 n] w fun e w' => e = .returned (.bool true) ∧ Below w.heap.size w w' := by
  have HS := small_any a0 _ cap0 l w rfl hG hA
  rw [hs] at HS
  obtain ⟨h30, -⟩ := smallB_yes hs
  have hK := kept_mk hs
  have HM := made_any a0 _ cap0 l w rfl (by omega) hA
  have HP := fun W (hb : Below w.heap.size w W) => kept_any a0 _ cap0 l W rfl (by omega) (hA.on hb)
  generalize Jou.keep [] l = p at hK HM HP
  obtain ⟨-, -, p3, -⟩ := hK
  have HS' := hide HS
  have HM' := hide HM
  have HP' := hide HP
  clear hG hA hs HS HM HP
  go_enter Try.func16, Try.ntmps16
  go_wp2_with fail
  refine Calls.mono HS'.out ?_
  rintro e w1 ⟨rfl, rfl⟩
  go_wp2_with fail
  refine Calls.mono HM'.out ?_
  rintro e w1 ⟨g, R, rfl, j1, b1, hgw, -⟩
  have J1 := hide j1.read
  go_wp2_with fail
  refine Calls.mono (HP'.out _ b1) ?_
  rintro e w2 ⟨B, d, rfl, o2, b2⟩
  have J2 := hide (J1.out.below b2)
  have glt := J1.out.lt
  have hgB : ∀ i, (Value.slice B p.length d).ownBlock = some i → i ≠ g := fun i hi => by have := (o2.lt i hi).1; omega
  have hle := own_le' o2
  have O2 := hide o2
  have B2 := hide (chain b1 b2)
  have hgB' := hide hgB
  clear hgB o2 b2 b1 j1 J1 HS' HM' HP' glt
  by_cases hout : n < 0 ∨ (p.length : Int) < n
  · go_wp2_with fail
    refine Calls.mono (truncate_no g p n _ J2.out hout) ?_
    rintro e w3 ⟨rfl, rfl⟩
    have L2 := hide (Lie.of_own O2.out)
    clear O2 hgB'
    go_upto_region 8 with fail
    by_cases h0 : n < 0
    · clear hout
      go_wp2_with fail
      refine Calls.mono (entries_any g p _ J2.out (by omega)) ?_
      rintro e w4 ⟨A4, c4, rfl, o4, b4⟩
      have L4 := hide (Lie.of_own o4)
      have L4' := hide (L2.out.on b4)
      have B4 := hide (chain B2.out b4)
      clear o4 b4 L2 B2 J2
      go_wp2_with fail
      refine Calls.mono (jsame_any A4 B _ _ _ _ p _ rfl rfl (by omega) L4.out L4'.out) ?_
      rintro e w5 ⟨rfl, b5⟩
      have B5 := hide (chain B4.out b5)
      clear b5 B4 L4 L4'
      go_wp2_with fail
      refine Calls.mono (example52_any _) ?_
      rintro e w6 ⟨rfl, b6⟩
      go_wp2_with fail
      go_ret
      exact ⟨rfl, chain B5.out b6⟩
    · have h1 : (p.length : Int) < n := by omega
      clear hout
      go_wp2_with fail
      refine Calls.mono (entries_any g p _ J2.out (by omega)) ?_
      rintro e w4 ⟨A4, c4, rfl, o4, b4⟩
      have L4 := hide (Lie.of_own o4)
      have L4' := hide (L2.out.on b4)
      have B4 := hide (chain B2.out b4)
      clear o4 b4 L2 B2 J2
      go_wp2_with fail
      refine Calls.mono (jsame_any A4 B _ _ _ _ p _ rfl rfl (by omega) L4.out L4'.out) ?_
      rintro e w5 ⟨rfl, b5⟩
      have B5 := hide (chain B4.out b5)
      clear b5 B4 L4 L4'
      go_wp2_with fail
      refine Calls.mono (example52_any _) ?_
      rintro e w6 ⟨rfl, b6⟩
      go_wp2_with fail
      go_ret
      exact ⟨rfl, chain B5.out b6⟩
  obtain ⟨m, rfl⟩ : ∃ m : Nat, n = (m : Int) := ⟨n.toNat, by omega⟩
  have hm : m ≤ p.length := by omega
  clear hout
  go_upto_region 7 with fail
  have HT := hide (truncate_yes g p m w2 J2.out hm (by omega))
  go_upto_region 8 with fail
  refine Calls.mono HT.out ?_
  rintro e w3 ⟨rfl, j3, o3⟩
  have J3 := hide j3
  have L3 := hide (lie_flat_take (Lie.of_own (o3.own O2.out (fun i hi => hgB'.out i hi))) m)
  have B3 := hide (B2.out.trans (o3.below B2.out.size (fun i hi => by omega)))
  have hml := hide (List.length_take_of_le hm)
  have hm30 : m ≤ 30 := by omega
  have hmd : m ≤ d := by omega
  generalize p.take m = q at J3 L3 hml
  clear HT j3 o3 O2 hgB' J2 B2
  go_upto_region 10 with fail
  have J3 := hide (J3.out.below ((Below.refl _ _).drew))
  have L3 := hide (L3.out.on ((Below.refl _ _).drew))
  have B3 := hide B3.out.drew
  have i0 : (0 : Int) ≤ (m : Int) := by omega
  have i1 : (m : Int) ≤ (p.length : Int) := by omega
  have i2 : (m : Int) ≤ (d : Int) := by omega
  go_region_held3 (fun w' => True) (trivial) (first
    | (go_at_call 29; refine Calls.mono (len_any g q _ J3.out) ?_; rw [hml.out]; rintro e w4 ⟨rfl, rfl⟩)
    | (go_at_call 26; refine Calls.mono (entries_any g q _ J3.out (by rw [hml.out]; omega)) ?_; unfold GivesE; rw [hml.out]; rintro e w5 ⟨A5, c5, rfl, o5, b5⟩; have L5 := hide (Lie.of_own o5); have L5' := hide (L3.out.on b5); have B5 := hide (chain B3.out b5); clear o5 b5)
    | (go_at_call 25; refine Calls.mono (jsame_any A5 B _ _ c5 _ q _ hml.out.symm hml.out.symm (by rw [hml.out]; omega) L5.out L5'.out) ?_; rintro e w6 ⟨rfl, b6⟩; have B6 := hide (chain B5.out b6); clear b6)
    | (go_at_call 21; refine (example52_any _).mono ?_; rintro e w9 ⟨rfl, b9⟩; have B9 := hide (chain B6.out b9); clear b9))
  all_goals (go_wp2_with fail; go_ret; exact ⟨rfl, B9.out⟩)

set_option maxRecDepth 100000 in
set_option maxHeartbeats 3200000 in
theorem walk_JournalCuts (a0 : Option Addr) (len0 cap0 : Nat) (l : List E) (n : Int) (w : World) (w0 : IsEnts w a0 len0 cap0 l) (w1 : (Lit.int .i64 n).wf = true) :
    Calls Try.prog 16 #[.slice a0 len0 cap0, .int .i64 n] w fun e w' => e = .returned (.bool true) ∧ Below w.heap.size w w' := by
  obtain ⟨rfl, hcap, hm, hG, hA⟩ := w0
  by_cases hs : smallB l = true
  · exact cuts_main a0 cap0 l n w hs hG hA
  · have HS := small_any a0 _ cap0 l w rfl hG hA
    rw [Bool.not_eq_true] at hs
    rw [hs] at HS
    have HS := hide HS
    clear hG hA hm hs w1
    go_enter Try.func16, Try.ntmps16
    go_wp2_with fail
    refine Calls.mono HS.out ?_
    rintro e w1 ⟨rfl, rfl⟩
    go_wp2_with (go_at_call 21; refine (example52_any _).mono ?_; rintro e w1 ⟨rfl, hb1⟩)
    go_ret
    exact ⟨rfl, hb1⟩
end Go.Proofs.Ytjbdfmniiiaakaa
