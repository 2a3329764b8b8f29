/- The walk of the law JournalBeginnings, for every input. -/
import Derived.Test.YtjbdfmniiiaakaaJsm
import Derived.Test.YtjbdfmniiiaakaaOrd
import Derived.Deep.RegionWith
namespace Go.Proofs.Ytjbdfmniiiaakaa
set_option linter.unusedVariables false
open Go.RowKit
open Ent (E)
open Jou (encJ)

set_option maxRecDepth 100000 in
set_option maxHeartbeats 12800000 in
theorem beginnings_main (a0 : Option Addr) (cap0 : Nat) (l : List UInt8) (w : World) (hl : l.length ≤ 4096) (hcap : l.length ≤ cap0) (hA : Lie w w.heap.size a0 (bytes l)) :
    Calls Try.prog 3 #[.slice a0 l.length cap0] w fun e w' => e = .returned (.bool true) ∧ Below w.heap.size w w' := by
  have H1 := recover_any a0 _ cap0 l w rfl (by omega) hcap hA
  have hlen : (Jou.recover l).1.length ≤ l.length := recF_len _ l [] 0 (by simp) (by omega)
  obtain ⟨hok, h2, h3, h4⟩ := Jou.recover_back l
  have h5 := Jou.recover_take l
  generalize Jou.recover l = r at H1 hlen hok h2 h3 h4 h5
  obtain ⟨p, a, er⟩ := r
  simp only at hlen hok h2 h3 h4 h5
  have hp : p.length ≤ 4096 := by omega
  have PC := hide (ok_check hok)
  have htl : Hid ((l.take a).length = a) := hide (by rw [List.length_take, Nat.min_eq_left h2])
  have H2 := fun W (hb : Below w.heap.size w W) => load_any a0 a cap0 (l.take a) W htl.out.symm (by rw [htl.out]; omega) (by omega) (lie_take (hA.on hb) a)
  rw [h5] at H2
  have HBy := fun g W (h : JR W g p) => jbytes_any g p W h PC.out (by omega)
  rw [← h3] at HBy
  have LT := hide (fun W (hb : Below w.heap.size w W) => str_at (c := cap0) (lie_take (hA.on hb) a) htl.out)
  have hbl : Hid (((er : Int) == 0) = ((a : Int) == (l.length : Int))) := hide (by
    by_cases h : er = 0
    · rw [h, h4.1 h]; simp
    · have : a ≠ l.length := fun e => h (h4.2 e)
      have e1 : ((er : Int) == 0) = false := by simp; omega
      have e2 : ((a : Int) == (l.length : Int)) = false := by simp; omega
      rw [e1, e2])
  generalize l.take a = M at H2 HBy htl LT
  have HBy' := hide HBy
  have H1' := hide H1
  have H2' := hide H2
  have i0 : (0 : Int) ≤ (a : Int) := by omega
  have i1 : (a : Int) ≤ (l.length : Int) := by omega
  have i2 : (a : Int) ≤ (cap0 : Int) := by omega
  clear hA H1 H2 HBy hlen hok h3 h4 h5
  go_enter Try.func3, Try.ntmps3
  go_wp2_with fail
  refine Calls.mono H1'.out ?_
  rintro e w1 ⟨g, R, rfl, j1, b1, -, -⟩
  have J1 := hide (j1.read.below ((Below.refl _ _).drew))
  have B1 := hide b1.drew
  clear j1 b1 H1'
  simp only at J1
  -- the region that draws its order: operation by operation
  go_upto_region 4 with fail
  have d0 : decide ((a : Int) < 0) = false := by simp
  have d1 : decide (l.length < a) = false := by simp; omega
  have d2 : decide ((l.length : Int) < (a : Int)) = false := by simp; omega
  obtain ⟨β, hβ⟩ : ∃ β : Bool, β = ((er : Int) == 0) := ⟨_, rfl⟩
  have hβ2 : β = ((a : Int) == (l.length : Int)) := by rw [hβ]; exact hbl.out
  have S1 := B1.out
  refine wp_region_held (S := fun W => Below w.heap.size w W) (by kernel_rfl) ?_
  try (change wpAnyH _ _ _ _ _ _ _ _ (World.drew _))
  refine h_yes (i := 0) (.pointer (some ⟨g, 0, none⟩)) rfl (by kernel_rfl) (by kernel_rfl) (by kernel_rfl) (fun _ _ _ h => h) S1 (by kernel_rfl) ?_ ?_
  · intro W hW; go_simp
  try simp only [Act.put, List.setIfInBounds_toArray, List.set_cons_zero, List.set_cons_succ, List.getElem_toArray, List.getElem_cons_zero]
  refine h_yes (i := 1) (.bool false) rfl (by kernel_rfl) (by kernel_rfl) (by kernel_rfl) (fun _ _ _ h => h) S1 (by kernel_rfl) ?_ ?_
  · intro W hW; go_simp
  try simp only [Act.put, List.setIfInBounds_toArray, List.set_cons_zero, List.set_cons_succ, List.getElem_toArray, List.getElem_cons_zero, List.getElem_cons_succ]
  refine h_yes (i := 2) (.bool false) rfl (by kernel_rfl) (by kernel_rfl) (by kernel_rfl) (fun _ _ _ h => h) S1 (by kernel_rfl) ?_ ?_
  · intro W hW; go_simp
  try simp only [Act.put, List.setIfInBounds_toArray, List.set_cons_zero, List.set_cons_succ, List.getElem_toArray, List.getElem_cons_zero, List.getElem_cons_succ]
  refine h_yes (i := 3) (.int .i64 a) rfl (by kernel_rfl) (by kernel_rfl) (by kernel_rfl) (fun _ _ _ h => h) S1 (by kernel_rfl) ?_ ?_
  · intro W hW; go_simp
  try simp only [Act.put, List.setIfInBounds_toArray, List.set_cons_zero, List.set_cons_succ, List.getElem_toArray, List.getElem_cons_zero, List.getElem_cons_succ]
  refine h_yes (i := 4) (.bool false) rfl (by kernel_rfl) (by kernel_rfl) (by kernel_rfl) (fun _ _ _ h => h) S1 (by kernel_rfl) ?_ ?_
  · intro W hW; go_simp
  try simp only [Act.put, List.setIfInBounds_toArray, List.set_cons_zero, List.set_cons_succ, List.getElem_toArray, List.getElem_cons_zero, List.getElem_cons_succ]
  refine h_yes (i := 5) (.bool false) rfl (by kernel_rfl) (by kernel_rfl) (by kernel_rfl) (fun _ _ _ h => h) S1 (by kernel_rfl) ?_ ?_
  · intro W hW; go_simp
  try simp only [Act.put, List.setIfInBounds_toArray, List.set_cons_zero, List.set_cons_succ, List.getElem_toArray, List.getElem_cons_zero, List.getElem_cons_succ]
  refine h_yes (i := 6) (.bool false) rfl (by kernel_rfl) (by kernel_rfl) (by kernel_rfl) (fun _ _ _ h => h) S1 (by kernel_rfl) ?_ ?_
  · intro W hW; go_simp
  try simp only [Act.put, List.setIfInBounds_toArray, List.set_cons_zero, List.set_cons_succ, List.getElem_toArray, List.getElem_cons_zero, List.getElem_cons_succ]
  refine h_yes (i := 7) (.int .i64 a) rfl (by kernel_rfl) (by kernel_rfl) (by kernel_rfl) (fun _ _ _ h => h) S1 (by kernel_rfl) ?_ ?_
  · intro W hW; go_simp
  try simp only [Act.put, List.setIfInBounds_toArray, List.set_cons_zero, List.set_cons_succ, List.getElem_toArray, List.getElem_cons_zero, List.getElem_cons_succ]
  refine h_yes (i := 8) (.slice a0 l.length cap0) rfl (by kernel_rfl) (by kernel_rfl) (by kernel_rfl) (fun _ _ _ h => h) S1 (by kernel_rfl) ?_ ?_
  · intro W hW; go_simp
  try simp only [Act.put, List.setIfInBounds_toArray, List.set_cons_zero, List.set_cons_succ, List.getElem_toArray, List.getElem_cons_zero, List.getElem_cons_succ]
  refine h_yes (i := 9) (.int .i64 l.length) rfl (by kernel_rfl) (by kernel_rfl) (by kernel_rfl) (fun _ _ _ h => h) S1 (by kernel_rfl) ?_ ?_
  · intro W hW; go_simp
  try simp only [Act.put, List.setIfInBounds_toArray, List.set_cons_zero, List.set_cons_succ, List.getElem_toArray, List.getElem_cons_zero, List.getElem_cons_succ]
  refine h_yes (i := 10) (.bool false) rfl (by kernel_rfl) (by kernel_rfl) (by kernel_rfl) (fun _ _ _ h => h) S1 (by kernel_rfl) ?_ ?_
  · intro W hW; go_simp
  try simp only [Act.put, List.setIfInBounds_toArray, List.set_cons_zero, List.set_cons_succ, List.getElem_toArray, List.getElem_cons_zero, List.getElem_cons_succ]
  refine h_yes (i := 11) (.bool false) rfl (by kernel_rfl) (by kernel_rfl) (by kernel_rfl) (fun _ _ _ h => h) S1 (by kernel_rfl) ?_ ?_
  · intro W hW; go_simp
  try simp only [Act.put, List.setIfInBounds_toArray, List.set_cons_zero, List.set_cons_succ, List.getElem_toArray, List.getElem_cons_zero, List.getElem_cons_succ]
  refine h_yes (i := 12) (.bool false) rfl (by kernel_rfl) (by kernel_rfl) (by kernel_rfl) (fun _ _ _ h => h) S1 (by kernel_rfl) ?_ ?_
  · intro W hW; go_simp
  try simp only [Act.put, List.setIfInBounds_toArray, List.set_cons_zero, List.set_cons_succ, List.getElem_toArray, List.getElem_cons_zero, List.getElem_cons_succ]
  refine h_yes (i := 13) (.int .i64 er) rfl (by kernel_rfl) (by kernel_rfl) (by kernel_rfl) (fun _ _ _ h => h) S1 (by kernel_rfl) ?_ ?_
  · intro W hW; go_simp
  try simp only [Act.put, List.setIfInBounds_toArray, List.set_cons_zero, List.set_cons_succ, List.getElem_toArray, List.getElem_cons_zero, List.getElem_cons_succ]
  refine h_yes (i := 14) (.bool β) rfl (by kernel_rfl) (by kernel_rfl) (by kernel_rfl) (fun _ _ _ h => h) S1 (by kernel_rfl) ?_ ?_
  · intro W hW; rw [hβ]; go_simp
  try simp only [Act.put, List.setIfInBounds_toArray, List.set_cons_zero, List.set_cons_succ, List.getElem_toArray, List.getElem_cons_zero, List.getElem_cons_succ]
  refine h_yes (i := 15) (.int .i64 a) rfl (by kernel_rfl) (by kernel_rfl) (by kernel_rfl) (fun _ _ _ h => h) S1 (by kernel_rfl) ?_ ?_
  · intro W hW; go_simp
  try simp only [Act.put, List.setIfInBounds_toArray, List.set_cons_zero, List.set_cons_succ, List.getElem_toArray, List.getElem_cons_zero, List.getElem_cons_succ]
  refine h_yes (i := 16) (.slice a0 l.length cap0) rfl (by kernel_rfl) (by kernel_rfl) (by kernel_rfl) (fun _ _ _ h => h) S1 (by kernel_rfl) ?_ ?_
  · intro W hW; go_simp
  try simp only [Act.put, List.setIfInBounds_toArray, List.set_cons_zero, List.set_cons_succ, List.getElem_toArray, List.getElem_cons_zero, List.getElem_cons_succ]
  refine h_yes (i := 17) (.int .i64 l.length) rfl (by kernel_rfl) (by kernel_rfl) (by kernel_rfl) (fun _ _ _ h => h) S1 (by kernel_rfl) ?_ ?_
  · intro W hW; go_simp
  try simp only [Act.put, List.setIfInBounds_toArray, List.set_cons_zero, List.set_cons_succ, List.getElem_toArray, List.getElem_cons_zero, List.getElem_cons_succ]
  refine h_yes (i := 18) (.bool β) rfl (by kernel_rfl) (by kernel_rfl) (by kernel_rfl) (fun _ _ _ h => h) S1 (by kernel_rfl) ?_ ?_
  · intro W hW; rw [hβ2]; go_simp
  try simp only [Act.put, List.setIfInBounds_toArray, List.set_cons_zero, List.set_cons_succ, List.getElem_toArray, List.getElem_cons_zero, List.getElem_cons_succ]
  refine h_yes (i := 19) (.bool false) rfl (by kernel_rfl) (by kernel_rfl) (by kernel_rfl) (fun _ _ _ h => h) S1 (by kernel_rfl) ?_ ?_
  · intro W hW; go_simp
  try simp only [Act.put, List.setIfInBounds_toArray, List.set_cons_zero, List.set_cons_succ, List.getElem_toArray, List.getElem_cons_zero, List.getElem_cons_succ]
  refine h_yes (i := 20) (.bool false) rfl (by kernel_rfl) (by kernel_rfl) (by kernel_rfl) (fun _ _ _ h => h) S1 (by kernel_rfl) ?_ ?_
  · intro W hW; go_simp
  try simp only [Act.put, List.setIfInBounds_toArray, List.set_cons_zero, List.set_cons_succ, List.getElem_toArray, List.getElem_cons_zero, List.getElem_cons_succ]
  refine h_yes (i := 21) (.bool false) rfl (by kernel_rfl) (by kernel_rfl) (by kernel_rfl) (fun _ _ _ h => h) S1 (by kernel_rfl) ?_ ?_
  · intro W hW; go_simp
  try simp only [Act.put, List.setIfInBounds_toArray, List.set_cons_zero, List.set_cons_succ, List.getElem_toArray, List.getElem_cons_zero, List.getElem_cons_succ]
  refine h_yes (i := 22) (.pointer (some ⟨g, 0, none⟩)) rfl (by kernel_rfl) (by kernel_rfl) (by kernel_rfl) (fun _ _ _ h => h) S1 (by kernel_rfl) ?_ ?_
  · intro W hW; go_simp
  try simp only [Act.put, List.setIfInBounds_toArray, List.set_cons_zero, List.set_cons_succ, List.getElem_toArray, List.getElem_cons_zero, List.getElem_cons_succ]
  refine h_yes (i := 25) (.slice a0 l.length cap0) rfl (by kernel_rfl) (by kernel_rfl) (by kernel_rfl) (fun _ _ _ h => h) S1 (by kernel_rfl) ?_ ?_
  · intro W hW; go_simp
  try simp only [Act.put, List.setIfInBounds_toArray, List.set_cons_zero, List.set_cons_succ, List.getElem_toArray, List.getElem_cons_zero, List.getElem_cons_succ]
  refine h_yes (i := 26) (.int .i64 a) rfl (by kernel_rfl) (by kernel_rfl) (by kernel_rfl) (fun _ _ _ h => h) S1 (by kernel_rfl) ?_ ?_
  · intro W hW; go_simp
  try simp only [Act.put, List.setIfInBounds_toArray, List.set_cons_zero, List.set_cons_succ, List.getElem_toArray, List.getElem_cons_zero, List.getElem_cons_succ]
  refine h_yes (i := 27) (.slice a0 a cap0) rfl (by kernel_rfl) (by kernel_rfl) (by kernel_rfl) (fun _ _ _ h => h) S1 (by kernel_rfl) ?_ ?_
  · intro W hW; go_simp
  try simp only [Act.put, List.setIfInBounds_toArray, List.set_cons_zero, List.set_cons_succ, List.getElem_toArray, List.getElem_cons_zero, List.getElem_cons_succ]
  refine h_yes (i := 28) (.string ⟨M.toArray⟩) rfl (by kernel_rfl) (by kernel_rfl) (by kernel_rfl) (fun _ _ _ h => h) S1 (by kernel_rfl) ?_ ?_
  · intro W hW; have hk := LT.out W hW; go_simp
  try simp only [Act.put, List.setIfInBounds_toArray, List.set_cons_zero, List.set_cons_succ, List.getElem_toArray, List.getElem_cons_zero, List.getElem_cons_succ]
  refine h_call (i := 23) rfl (by kernel_rfl) (by kernel_rfl) ?_
  try simp only [List.getElem_toArray, List.getElem_cons_zero, List.getElem_cons_succ]
  go_simp
  go_at_call 23
  refine Calls.mono (HBy'.out g _ J1.out) ?_
  rintro e w2 ⟨A2, c2, rfl, o2, b2⟩
  have J2 := hide (J1.out.below b2)
  have S2 := chain S1 b2
  have L2 := Lie.of_own o2
  have k2 := hide (fun W (hb : Below w2.heap.size w2 W) => str_at (c := c2) (L2.on hb) rfl)
  refine ⟨S2, h_mono (S' := fun W => Below w2.heap.size w2 W) (fun W hW => chain S2 hW) _ _ _ _ ?_⟩
  try simp only [Act.put, List.setIfInBounds_toArray, List.set_cons_zero, List.set_cons_succ, List.getElem_toArray, List.getElem_cons_zero, List.getElem_cons_succ]
  refine h_yes (i := 24) (.string ⟨M.toArray⟩) rfl (by kernel_rfl) (by kernel_rfl) (by kernel_rfl) (fun _ _ _ h => h) (Below.refl _ _) (by kernel_rfl) ?_ ?_
  · intro W hW; have hk := k2.out W hW; go_simp
  try simp only [Act.put, List.setIfInBounds_toArray, List.set_cons_zero, List.set_cons_succ, List.getElem_toArray, List.getElem_cons_zero, List.getElem_cons_succ]
  refine h_yes (i := 29) (.bool false) rfl (by kernel_rfl) (by kernel_rfl) (by kernel_rfl) (fun _ _ _ h => h) (Below.refl _ _) (by kernel_rfl) ?_ ?_
  · intro W hW; go_simp
  try simp only [Act.put, List.setIfInBounds_toArray, List.set_cons_zero, List.set_cons_succ, List.getElem_toArray, List.getElem_cons_zero, List.getElem_cons_succ]
  refine h_yes (i := 30) (.bool false) rfl (by kernel_rfl) (by kernel_rfl) (by kernel_rfl) (fun _ _ _ h => h) (Below.refl _ _) (by kernel_rfl) ?_ ?_
  · intro W hW; go_simp
  try simp only [Act.put, List.setIfInBounds_toArray, List.set_cons_zero, List.set_cons_succ, List.getElem_toArray, List.getElem_cons_zero, List.getElem_cons_succ]
  refine wpAnyH_done (by kernel_rfl) ?_ _
  have B2 := hide S2
  clear o2 b2 S1 S2 L2 k2 hβ hβ2 hbl d0 d1 d2
  go_wp2_with fail
  refine Calls.mono (H2'.out _ B2.out) ?_
  intro e w3 h
  obtain ⟨gk, rfl, k3, b3⟩ : ∃ gk, e = .returned (.tuple #[.pointer (some ⟨gk, 0, none⟩), .int .i64 0]) ∧ JR w3 gk p ∧ Below w2.heap.size w2 w3 := by
    rcases h with ⟨h1, _⟩ | ⟨_, g, R, h1, h2, h3, h4, h5⟩
    · exact absurd h1 (by simp)
    · exact ⟨g, h1, h2.read, h3⟩
  have J3 := hide (J2.out.below b3)
  have K3 := hide k3
  have B3 := hide (chain B2.out b3)
  clear h b3 k3 J2 B2
  go_wp2_with fail
  refine Calls.mono (entries_any g p _ J3.out (by omega)) ?_
  rintro e w4 ⟨A4, c4, rfl, o4, b4⟩
  have L4 := hide (Lie.of_own o4)
  have K4 := hide (K3.out.below b4)
  have B4 := hide (chain B3.out b4)
  clear o4 b4 J3 K3 B3
  go_wp2_with fail
  refine Calls.mono (entries_any gk p _ K4.out (by omega)) ?_
  rintro e w5 ⟨A5, c5, rfl, o5, b5⟩
  have L5 := hide (Lie.of_own o5)
  have L4' := hide (L4.out.on b5)
  have B5 := hide (chain B4.out b5)
  clear o5 b5 L4 K4 B4
  go_wp2_with fail
  refine Calls.mono (jsame_any A4 A5 _ _ c4 c5 p _ rfl rfl (by omega) L4'.out L5.out) ?_
  rintro e w6 ⟨rfl, b6⟩
  have B6 := hide (chain B5.out b6)
  clear b6 L4' L5 B5
  go_wp2_with fail
  refine Calls.mono (example52_any _) ?_
  rintro e w7 ⟨rfl, b7⟩
  go_wp2_with fail
  go_ret
  exact ⟨rfl, chain B6.out b7⟩

set_option maxRecDepth 100000 in
set_option maxHeartbeats 3200000 in
theorem walk_JournalBeginnings (a0 : Option Addr) (len0 cap0 : Nat) (z0 : List Int) (w : World) (w0 : IsRow .u8 w a0 len0 cap0 z0) :
    Calls Try.prog 3 #[.slice a0 len0 cap0] w fun e w' => e = .returned (.bool true) ∧ Below w.heap.size w w' := by
  obtain ⟨l, rfl, hcap, hA⟩ := row_bytes w0
  clear w0
  by_cases h1 : 4096 < l.length
  · clear hA
    go_enter Try.func3, Try.ntmps3
    go_wp2_with (go_at_call 21; refine (example52_any _).mono ?_; rintro e w1 ⟨rfl, hb1⟩)
    go_ret
    exact ⟨rfl, hb1⟩
  exact beginnings_main a0 cap0 l w (by omega) hcap hA
end Go.Proofs.Ytjbdfmniiiaakaa
