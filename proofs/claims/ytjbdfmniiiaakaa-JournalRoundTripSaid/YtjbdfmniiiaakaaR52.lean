/- The walk of the law JournalRoundTrip, for every input. -/
import Derived.Test.YtjbdfmniiiaakaaJsm
import Derived.Deep.RegionWith
namespace Go.Proofs.Ytjbdfmniiiaakaa
set_option linter.unusedVariables false
open Go.RowKit
open Ent (E)
open Jou (encJ)

set_option maxRecDepth 100000 in
set_option maxHeartbeats 6400000 in
theorem walk_JournalRoundTrip (a0 : Option Addr) (len0 cap0 : Nat) (l : List E) (w : World) (w0 : IsEnts w a0 len0 cap0 l) :
    Calls Try.prog 19 #[.slice a0 len0 cap0] w fun e w' => e = .returned (.bool true) ∧ Below w.heap.size w w' := by
  obtain ⟨rfl, hcap, hm, hG, hA⟩ := w0
  have HS := small_any a0 _ cap0 l w rfl hG hA
  by_cases hs : smallB l = true
  case neg =>
    rw [Bool.not_eq_true] at hs
    rw [hs] at HS
    clear hG hA hm hs
    have HS := hide HS
    go_enter Try.func19, Try.ntmps19
    go_wp2_with fail
    refine Calls.mono HS.out ?_
    rintro e w1 ⟨rfl, rfl⟩
    go_wp2_with (go_at_call 21; refine (example52_any _).mono ?_; rintro e w1 ⟨rfl, hb1⟩)
    go_ret
    exact ⟨rfl, hb1⟩
  rw [hs] at HS
  obtain ⟨h30, -⟩ := smallB_yes hs
  have hK := kept_mk hs
  have HM := made_any a0 _ cap0 l w rfl (by omega) hA
  generalize Jou.keep [] l = p at hK HM
  obtain ⟨p1, p2, p3, p4⟩ := hK
  have hrec := Jou.recover_enc p p1
  have HS' := hide HS
  have HM' := hide HM
  have PC := hide p2
  clear hG hA hm hs HS HM p1 p2
  go_enter Try.func19, Try.ntmps19
  go_wp2_with fail
  refine Calls.mono HS'.out ?_
  rintro e w1 ⟨rfl, rfl⟩
  go_wp2_with fail
  refine Calls.mono HM'.out ?_
  rintro e w1 ⟨g, R, rfl, j1, b1, -, -⟩
  have J1 := hide j1.read
  have B1 := hide b1
  clear j1 b1 HS' HM'
  go_wp2_with fail
  refine Calls.mono (jbytes_any g p _ J1.out PC.out (by omega)) ?_
  rintro e w2 ⟨A2, c2, rfl, o2, b2⟩
  have J2 := hide (J1.out.below b2)
  have B2 := hide (chain B1.out b2)
  have HL := load_any A2 _ c2 (encJ p) w2 rfl (by omega) (own_le' o2) (Lie.of_own o2)
  rw [hrec] at HL
  have HBy := fun g W (h : JR W g p) => jbytes_any g p W h PC.out (by omega)
  generalize encJ p = M at HL p4 HBy
  have HBy' := hide HBy
  have HL' := hide HL
  clear o2 b2 J1 B1 HL hrec HBy
  go_wp2_with fail
  refine Calls.mono HL'.out ?_
  intro e w3 h
  obtain ⟨gk, rfl, k3, b3⟩ : ∃ gk, e = .returned (.tuple #[.pointer (some ⟨gk, 0, none⟩), .int .i64 0]) ∧ JR w3 gk p ∧ Below w2.heap.size w2 w3 := by
    rcases h with ⟨h1, _⟩ | ⟨_, g, R, h1, h2, h3, h4, h5⟩
    · exact absurd h1 (by simp)
    · exact ⟨g, h1, h2.read, h3⟩
  have J3 := hide (J2.out.below b3)
  have K3 := hide k3
  have B3 := hide (chain B2.out b3)
  clear h HL' J2 B2 b3 k3
  go_upto_region 7 with fail
  have J3 := hide (J3.out.below ((Below.refl _ _).drew))
  have K3 := hide (K3.out.below ((Below.refl _ _).drew))
  have B3 := hide B3.out.drew
  go_region_with (first
    | (go_at_call 26; (with_reducible refine Calls.mono (entries_any g p _ J3.out (by omega)) ?_); rintro e w4 ⟨A4, c4, rfl, o4, b4⟩; have L4 := hide (Lie.of_own o4); have K4 := hide (K3.out.below b4); have J4 := hide (J3.out.below b4); have B4 := hide (chain B3.out b4); clear o4 b4)
    | (go_at_call 26; (with_reducible refine Calls.mono (entries_any gk p _ K4.out (by omega)) ?_); rintro e w5 ⟨A5, c5, rfl, o5, b5⟩; have L5 := hide (Lie.of_own o5); have L4' := hide (L4.out.on b5); have K5 := hide (K4.out.below b5); have J5 := hide (J4.out.below b5); have B5 := hide (chain B4.out b5); clear o5 b5)
    | (go_at_call 25; refine Calls.mono (jsame_any A4 A5 _ _ c4 c5 p _ rfl rfl (by omega) L4'.out L5.out) ?_; rintro e w6 ⟨rfl, b6⟩; have K6 := hide (K5.out.below b6); have J6 := hide (J5.out.below b6); have B6 := hide (chain B5.out b6); clear b6)
    | (go_at_call 23; (with_reducible refine Calls.mono (HBy'.out g _ J6.out) ?_); rintro e w7 ⟨A7, c7, rfl, o7, b7⟩; have k7 := str_at (c := c7) (Lie.of_own o7) rfl; have L7 := hide (Lie.of_own o7); have K7 := hide (K6.out.below b7); have B7 := hide (chain B6.out b7); clear o7 b7)
    | (go_at_call 23; (with_reducible refine Calls.mono (HBy'.out gk _ K7.out) ?_); rintro e w8 ⟨A8, c8, rfl, o8, b8⟩; have k8 := str_at (c := c8) (Lie.of_own o8) rfl; have k7' := str_at (c := c7) (L7.out.on b8) rfl; have B8 := hide (chain B7.out b8); clear o8 b8)
    | (go_at_call 21; refine (example52_any _).mono ?_; rintro e w9 ⟨rfl, b9⟩; have B9 := hide (chain B8.out b9); clear b9 k7 k8 k7'))
  all_goals (go_wp2_with fail; go_ret; exact ⟨rfl, B9.out⟩)
end Go.Proofs.Ytjbdfmniiiaakaa
