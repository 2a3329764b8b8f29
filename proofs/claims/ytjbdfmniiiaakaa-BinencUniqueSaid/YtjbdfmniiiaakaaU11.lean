/- The walk of the law BinencUnique, for every input. -/
import Derived.Test.YtjbdfmniiiaakaaEx11
import Derived.Test.YtjbdfmniiiaakaaOrd
import Derived.Deep.RegionWith
import Derived.Deep.DeepCutAuto
import Derived.Deep.QuietTactic
import Derived.BigQuiet
namespace Go.Proofs.Ytjbdfmniiiaakaa
set_option linter.unusedVariables false
open Go.RowKit

theorem dIs_len (l : List UInt8) (n a : Nat) (ha : a ≤ l.length) : (Bin.dIs l n a).v.length ≤ l.length := by
  have key : ∀ (n a : Nat), a ≤ l.length → (Bin.dIs l n a).v.length + a ≤ l.length := by
    intro n
    induction n with
    | zero => intro a ha; simpa [Bin.dIs] using ha
    | succ n ih =>
      intro a ha
      unfold Bin.dIs
      split
      · rename_i h1
        obtain ⟨_, h3, h4, _, _⟩ := Bin.dI_ok l a h1
        simp only [Int.toNat_natCast] at h3
        split
        · have := ih _ h4
          simp only [List.length_cons]
          omega
        · simpa using ha
      · simpa using ha
  have := key n a ha
  omega
theorem dL_len (l : List UInt8) (a most : Int) : (Bin.dL l a most).v.length ≤ l.length := by
  unfold Bin.dL
  split
  · rename_i h
    obtain ⟨_, _, h3, _⟩ := Bin.dLen_ok l a most h
    exact dIs_len l _ _ h3
  · simp

theorem below_drewN' {B : Nat} {a w : World} (h : Below B a w) (n : Nat) : Below B a (w.drewN n) := h.trans ⟨rfl, rfl, rfl, Nat.le_refl _, fun _ _ => rfl⟩
theorem okI (l : List UInt8) (a : Nat) : (Bin.dI l (a : Int)).e = 0 → a < (Bin.dI l (a : Int)).next ∧ (Bin.dI l (a : Int)).next ≤ l.length ∧ Fits (Bin.dI l (a : Int)).v ∧ (l.drop a).take ((Bin.dI l (a : Int)).next - a) = Bin.encI (Bin.dI l (a : Int)).v := fun h => by
  obtain ⟨_, h2, h3, h4, h5⟩ := Bin.dI_ok l a h
  rw [Int.toNat_natCast] at h2 h5
  exact ⟨h2, h3, h4, h5⟩
theorem okB (l : List UInt8) (a : Nat) (most : Int) : (Bin.dB l (a : Int) most).e = 0 → a < (Bin.dB l (a : Int) most).next ∧ (Bin.dB l (a : Int) most).next ≤ l.length ∧ (Bin.dB l (a : Int) most).v.length ≤ most.toNat ∧
    (l.drop a).take ((Bin.dB l (a : Int) most).next - a) = Bin.encB (Bin.dB l (a : Int) most).v := fun h => by
  obtain ⟨_, h2, h3, h4, h5⟩ := Bin.dB_ok l a most h
  rw [Int.toNat_natCast] at h2 h5
  exact ⟨h2, h3, by omega, h5⟩
theorem okL (l : List UInt8) (a : Nat) (most : Int) : (Bin.dL l (a : Int) most).e = 0 → a < (Bin.dL l (a : Int) most).next ∧ (Bin.dL l (a : Int) most).next ≤ l.length ∧ (∀ x ∈ (Bin.dL l (a : Int) most).v, Fits x) ∧
    (l.drop a).take ((Bin.dL l (a : Int) most).next - a) = Bin.encL (Bin.dL l (a : Int) most).v := fun h => by
  have h0 := Bin.dL_ok l a most h
  unfold Bin.dL at h h0 ⊢
  split at h
  · rename_i h1
    rw [if_pos h1] at h0 ⊢
    obtain ⟨h2, h3, h4, h5, h6, h7⟩ := Bin.dLen_ok l a most h1
    obtain ⟨i1, i2, i3, i4, i5⟩ := Bin.dIs_ok l _ _ h4 h
    obtain ⟨_, _, _, h8⟩ := h0
    rw [Int.toNat_natCast] at h3 h8
    exact ⟨by omega, i2, i4, h8⟩
  · rename_i h1
    exact absurd h h1
/-- the string of a part of a row. -/
theorem part_str {w : World} {B b o c n : Nat} {l E : List UInt8} (a : Nat) (h : Lie w B (some ⟨b, o, none⟩) (bytes l)) (he : (l.drop a).take n = E) (hn : E.length = n) :
    (convert 22 9 (.slice (some ⟨b, o + a, none⟩) n c)).run Try.prog w = .ok (.string ⟨E.toArray⟩) w := by
  subst he
  exact str_of (lie_at h a n) hn
theorem part_len {l E : List UInt8} {a x : Nat} (he : (l.drop a).take (x - a) = E) (h : x ≤ l.length) : E.length = x - a := by
  subst he
  simp; omega

set_option maxRecDepth 100000 in
set_option maxHeartbeats 3200000 in
theorem unique_main (A : Option Addr) (cap : Nat) (l : List UInt8) (a : Nat) (w : World) (hl : l.length ≤ 4096) (ha : a ≤ l.length) (hcap : l.length ≤ cap) (hA : Lie w w.heap.size A (bytes l)) :
    Calls Try.prog 6 #[.slice A l.length cap, .int .i64 a] w fun e w' => e = .returned (.bool true) ∧ Below w.heap.size w w' := by
  have h1 := hide (int_any A _ cap l a w rfl (by omega) hA)
  have k1 := hide (okI l a)
  have h2 := hide (fun (w1 : World) (hb : Below w.heap.size w w1) => bytes_any A _ cap l a 4096 w1 rfl (by omega) hcap ⟨by omega, by omega⟩ (lie_on hA hb))
  have k2 := hide (okB l a 4096)
  have h3 := hide (fun (w1 : World) (hb : Below w.heap.size w w1) => ints_any A _ cap l a 4096 w1 rfl (by omega) ⟨by omega, by omega⟩ (lie_on hA hb))
  have k3 := hide (okL l a 4096)
  have n3 := hide (dL_len l a 4096)
  generalize Bin.dI l a = G1 at h1 k1
  generalize Bin.dB l a 4096 = G2 at h2 k2
  generalize Bin.dL l a 4096 = G3 at h3 k3 n3
  obtain ⟨v1, x1, e1⟩ := G1
  obtain ⟨v2, x2, e2⟩ := G2
  obtain ⟨v3, x3, e3⟩ := G3
  have b0 : Hid (Below w.heap.size w w.drew) := (Below.refl _ _).drew
  have hA := hide hA
  go_enter Try.func6, Try.ntmps6
  go_wp2_with fail
  refine Calls.mono h1.out ?_
  rintro e w1 ⟨rfl, rfl⟩
  clear h1
  go_upto_region 4 with fail
  go_cut [58] from 14 to 58 (fun s wx => s = .bool false ∧ Below w.heap.size w wx)
  case first =>
    clear h2 h3 k2 k3 n3
    by_cases he : e1 = 0
    · have f0 : ((e1 : Int) == 0) = true := by simp; omega
      have f1 : ((e1 : Int) != 0) = false := by simp; omega
      obtain ⟨q1, q2, q3, q4⟩ := k1.out he
      try simp only at q1 q2 q3 q4
      obtain ⟨b, o, rfl, _, _⟩ := hA.out (by rw [bytes_len]; omega)
      have kS := hide (fun (w1 : World) (hb : Below w.heap.size w w1) => part_str (c := cap - a) a (lie_on hA.out hb) q4 (part_len q4 q2))
      have hf := hide q3
      have i1 : (a : Int) < (x1 : Int) := by omega
      have i2 : (x1 : Int) ≤ (l.length : Int) := by omega
      have i3 : a < cap := by omega
      have i0 : (0 : Int) ≤ (a : Int) := by omega
      have i4 : (a : Int) ≤ (x1 : Int) := by omega
      have i5 : (x1 : Int) ≤ (cap : Int) := by omega
      have i6 : ¬ cap = a := by omega
      have d1 : ¬ x1 < a := by omega
      have d2 : ¬ l.length < x1 := by omega
      clear q3 q4 hA k1
      clear he
      have g1 : decide ((x1 : Int) < (a : Int)) = false := by simp; omega
      have g2 : decide (x1 < a) = false := by simp; omega
      have g3 : decide ((l.length : Int) < (x1 : Int)) = false := by simp; omega
      have g4 : decide (l.length < x1) = false := by simp; omega
      have S1 := b0.out
      refine wp_region_held (S := fun W => Below w.heap.size w W) (by kernel_rfl) ?_
      (change wpAnyH _ _ _ _ _ _ _ _ (World.drew w))
      refine h_yes (i := 0) (.int .i64 e1) rfl (by kernel_rfl) (by kernel_rfl) (by kernel_rfl) (fun _ _ _ h => h) S1 (by kernel_rfl) ?_ ?_
      · intro W hW; go_simp
      try simp only [Act.put, List.setIfInBounds_toArray, List.set_cons_zero, List.set_cons_succ, List.getElem_toArray, List.getElem_cons_zero]
      refine h_yes (i := 1) (.bool true) rfl (by kernel_rfl) (by kernel_rfl) (by kernel_rfl) (fun _ _ _ h => h) S1 (by kernel_rfl) ?_ ?_
      · intro W hW; go_simp
      try simp only [Act.put, List.setIfInBounds_toArray, List.set_cons_zero, List.set_cons_succ, List.getElem_toArray, List.getElem_cons_zero, List.getElem_cons_succ]
      refine h_yes (i := 2) (.bool true) rfl (by kernel_rfl) (by kernel_rfl) (by kernel_rfl) (fun _ _ _ h => h) S1 (by kernel_rfl) ?_ ?_
      · intro W hW; go_simp
      try simp only [Act.put, List.setIfInBounds_toArray, List.set_cons_zero, List.set_cons_succ, List.getElem_toArray, List.getElem_cons_zero, List.getElem_cons_succ]
      refine h_yes (i := 3) (.int .i64 x1) rfl (by kernel_rfl) (by kernel_rfl) (by kernel_rfl) (fun _ _ _ h => h) S1 (by kernel_rfl) ?_ ?_
      · intro W hW; go_simp
      try simp only [Act.put, List.setIfInBounds_toArray, List.set_cons_zero, List.set_cons_succ, List.getElem_toArray, List.getElem_cons_zero, List.getElem_cons_succ]
      refine h_yes (i := 4) (.int .i64 a) rfl (by kernel_rfl) (by kernel_rfl) (by kernel_rfl) (fun _ _ _ h => h) S1 (by kernel_rfl) ?_ ?_
      · intro W hW; go_simp
      try simp only [Act.put, List.setIfInBounds_toArray, List.set_cons_zero, List.set_cons_succ, List.getElem_toArray, List.getElem_cons_zero, List.getElem_cons_succ]
      refine h_yes (i := 5) (.bool false) rfl (by kernel_rfl) (by kernel_rfl) (by kernel_rfl) (fun _ _ _ h => h) S1 (by kernel_rfl) ?_ ?_
      · intro W hW; go_simp
      try simp only [Act.put, List.setIfInBounds_toArray, List.set_cons_zero, List.set_cons_succ, List.getElem_toArray, List.getElem_cons_zero, List.getElem_cons_succ]
      refine h_yes (i := 6) (.bool false) rfl (by kernel_rfl) (by kernel_rfl) (by kernel_rfl) (fun _ _ _ h => h) S1 (by kernel_rfl) ?_ ?_
      · intro W hW; go_simp
      try simp only [Act.put, List.setIfInBounds_toArray, List.set_cons_zero, List.set_cons_succ, List.getElem_toArray, List.getElem_cons_zero, List.getElem_cons_succ]
      refine h_yes (i := 7) (.int .i64 x1) rfl (by kernel_rfl) (by kernel_rfl) (by kernel_rfl) (fun _ _ _ h => h) S1 (by kernel_rfl) ?_ ?_
      · intro W hW; go_simp
      try simp only [Act.put, List.setIfInBounds_toArray, List.set_cons_zero, List.set_cons_succ, List.getElem_toArray, List.getElem_cons_zero, List.getElem_cons_succ]
      refine h_yes (i := 8) (.slice (some ⟨b, o, none⟩) l.length cap) rfl (by kernel_rfl) (by kernel_rfl) (by kernel_rfl) (fun _ _ _ h => h) S1 (by kernel_rfl) ?_ ?_
      · intro W hW; go_simp
      try simp only [Act.put, List.setIfInBounds_toArray, List.set_cons_zero, List.set_cons_succ, List.getElem_toArray, List.getElem_cons_zero, List.getElem_cons_succ]
      refine h_yes (i := 9) (.int .i64 l.length) rfl (by kernel_rfl) (by kernel_rfl) (by kernel_rfl) (fun _ _ _ h => h) S1 (by kernel_rfl) ?_ ?_
      · intro W hW; go_simp
      try simp only [Act.put, List.setIfInBounds_toArray, List.set_cons_zero, List.set_cons_succ, List.getElem_toArray, List.getElem_cons_zero, List.getElem_cons_succ]
      refine h_yes (i := 10) (.bool false) rfl (by kernel_rfl) (by kernel_rfl) (by kernel_rfl) (fun _ _ _ h => h) S1 (by kernel_rfl) ?_ ?_
      · intro W hW; go_simp
      try simp only [Act.put, List.setIfInBounds_toArray, List.set_cons_zero, List.set_cons_succ, List.getElem_toArray, List.getElem_cons_zero, List.getElem_cons_succ]
      refine h_yes (i := 11) (.bool false) rfl (by kernel_rfl) (by kernel_rfl) (by kernel_rfl) (fun _ _ _ h => h) S1 (by kernel_rfl) ?_ ?_
      · intro W hW; go_simp
      try simp only [Act.put, List.setIfInBounds_toArray, List.set_cons_zero, List.set_cons_succ, List.getElem_toArray, List.getElem_cons_zero, List.getElem_cons_succ]
      refine h_yes (i := 12) (.bool false) rfl (by kernel_rfl) (by kernel_rfl) (by kernel_rfl) (fun _ _ _ h => h) S1 (by kernel_rfl) ?_ ?_
      · intro W hW; go_simp
      try simp only [Act.put, List.setIfInBounds_toArray, List.set_cons_zero, List.set_cons_succ, List.getElem_toArray, List.getElem_cons_zero, List.getElem_cons_succ]
      refine h_yes (i := 13) (.int .i64 v1) rfl (by kernel_rfl) (by kernel_rfl) (by kernel_rfl) (fun _ _ _ h => h) S1 (by kernel_rfl) ?_ ?_
      · intro W hW; go_simp
      try simp only [Act.put, List.setIfInBounds_toArray, List.set_cons_zero, List.set_cons_succ, List.getElem_toArray, List.getElem_cons_zero, List.getElem_cons_succ]
      refine h_yes (i := 16) (.slice (some ⟨b, o, none⟩) l.length cap) rfl (by kernel_rfl) (by kernel_rfl) (by kernel_rfl) (fun _ _ _ h => h) S1 (by kernel_rfl) ?_ ?_
      · intro W hW; go_simp
      try simp only [Act.put, List.setIfInBounds_toArray, List.set_cons_zero, List.set_cons_succ, List.getElem_toArray, List.getElem_cons_zero, List.getElem_cons_succ]
      refine h_yes (i := 17) (.int .i64 a) rfl (by kernel_rfl) (by kernel_rfl) (by kernel_rfl) (fun _ _ _ h => h) S1 (by kernel_rfl) ?_ ?_
      · intro W hW; go_simp
      try simp only [Act.put, List.setIfInBounds_toArray, List.set_cons_zero, List.set_cons_succ, List.getElem_toArray, List.getElem_cons_zero, List.getElem_cons_succ]
      refine h_yes (i := 18) (.int .i64 x1) rfl (by kernel_rfl) (by kernel_rfl) (by kernel_rfl) (fun _ _ _ h => h) S1 (by kernel_rfl) ?_ ?_
      · intro W hW; go_simp
      try simp only [Act.put, List.setIfInBounds_toArray, List.set_cons_zero, List.set_cons_succ, List.getElem_toArray, List.getElem_cons_zero, List.getElem_cons_succ]
      refine h_yes (i := 19) (.slice (some ⟨b, o + a, none⟩) (x1 - a) (cap - a)) rfl (by kernel_rfl) (by kernel_rfl) (by kernel_rfl) (fun _ _ _ h => h) S1 (by kernel_rfl) ?_ ?_
      · intro W hW; go_simp
      try simp only [Act.put, List.setIfInBounds_toArray, List.set_cons_zero, List.set_cons_succ, List.getElem_toArray, List.getElem_cons_zero, List.getElem_cons_succ]
      refine h_yes (i := 20) (.string ⟨(Bin.encI v1).toArray⟩) rfl (by kernel_rfl) (by kernel_rfl) (by kernel_rfl) (fun _ _ _ h => h) S1 (by kernel_rfl) ?_ ?_
      · intro W hW; have hk := kS.out W hW; go_simp
      try simp only [Act.put, List.setIfInBounds_toArray, List.set_cons_zero, List.set_cons_succ, List.getElem_toArray, List.getElem_cons_zero, List.getElem_cons_succ]
      refine h_call (i := 14) rfl (by kernel_rfl) (by kernel_rfl) ?_
      try simp only [List.getElem_toArray, List.getElem_cons_zero, List.getElem_cons_succ]
      go_simp
      go_at_call 34
      refine Calls.mono (putint_any v1 _ hf.out) ?_
      intro e w5 h
      obtain ⟨A5, c5, rfl, k5, l5, b5⟩ := gives_str h rfl _ rfl
      clear h k5
      have S2 := chain S1 b5
      have B5 := hide S2
      have k5 := hide (fun W (hb : Below w5.heap.size w5 W) => str_of (c := c5) (lie_on l5 hb) rfl)
      refine ⟨S2, h_mono (S' := fun W => Below w5.heap.size w5 W) (fun W hW => chain S2 hW) _ _ _ _ ?_⟩
      try simp only [Act.put, List.setIfInBounds_toArray, List.set_cons_zero, List.set_cons_succ, List.getElem_toArray, List.getElem_cons_zero, List.getElem_cons_succ]
      refine h_yes (i := 15) (.string ⟨(Bin.encI v1).toArray⟩) rfl (by kernel_rfl) (by kernel_rfl) (by kernel_rfl) (fun _ _ _ h => h) (Below.refl _ _) (by kernel_rfl) ?_ ?_
      · intro W hW; have hk := k5.out W hW; go_simp
      try simp only [Act.put, List.setIfInBounds_toArray, List.set_cons_zero, List.set_cons_succ, List.getElem_toArray, List.getElem_cons_zero, List.getElem_cons_succ]
      refine h_yes (i := 21) (.bool false) rfl (by kernel_rfl) (by kernel_rfl) (by kernel_rfl) (fun _ _ _ h => h) (Below.refl _ _) (by kernel_rfl) ?_ ?_
      · intro W hW; go_simp
      try simp only [Act.put, List.setIfInBounds_toArray, List.set_cons_zero, List.set_cons_succ, List.getElem_toArray, List.getElem_cons_zero, List.getElem_cons_succ]
      refine h_yes (i := 22) (.bool false) rfl (by kernel_rfl) (by kernel_rfl) (by kernel_rfl) (fun _ _ _ h => h) (Below.refl _ _) (by kernel_rfl) ?_ ?_
      · intro W hW; go_simp
      try simp only [Act.put, List.setIfInBounds_toArray, List.set_cons_zero, List.set_cons_succ, List.getElem_toArray, List.getElem_cons_zero, List.getElem_cons_succ]
      refine h_yes (i := 23) (.bool false) rfl (by kernel_rfl) (by kernel_rfl) (by kernel_rfl) (fun _ _ _ h => h) (Below.refl _ _) (by kernel_rfl) ?_ ?_
      · intro W hW; go_simp
      try simp only [Act.put, List.setIfInBounds_toArray, List.set_cons_zero, List.set_cons_succ, List.getElem_toArray, List.getElem_cons_zero, List.getElem_cons_succ]
      refine wpAnyH_done (by kernel_rfl) ?_ _
      all_goals (go_wp2_with fail; go_meet; exact ⟨rfl, B5.out⟩)
    · have hne : ((e1 : Int) == 0) = false := by simp; omega
      clear he k1 hA
      go_quiet (fail)
      go_wp2_with fail
      go_meet
      exact ⟨rfl, below_drewN' (Below.refl _ _) _⟩
  case rest =>
  obtain ⟨rfl, hb1⟩ := hcut
  clear k1 b0
  go_wp2_with fail
  refine Calls.mono (h2.out _ hb1) ?_
  intro e w2 h
  obtain ⟨A2, c2, rfl, L2, b2⟩ := gotb_lit h rfl rfl
  have L2 := hide L2
  have hb2 := chain hb1 b2
  have b0 : Hid (Below w.heap.size w w2.drew) := hb2.drew
  clear h h2 b2 hb1
  go_upto_region 7 with fail
  go_cut [89] from 14 to 89 (fun s wx => s = .bool false ∧ Below w.heap.size w wx)
  case first =>
    clear h3 k3 n3
    by_cases he : e2 = 0
    · have f0 : ((e2 : Int) == 0) = true := by simp; omega
      have f1 : ((e2 : Int) != 0) = false := by simp; omega
      obtain ⟨q1, q2, q3, q4⟩ := k2.out he
      try simp only at q1 q2 q3 q4
      have q3 : v2.length ≤ 4096 := q3
      obtain ⟨b, o, rfl, _, _⟩ := hA.out (by rw [bytes_len]; omega)
      have kS := hide (fun (w1 : World) (hb : Below w.heap.size w w1) => part_str (c := cap - a) a (lie_on hA.out hb) q4 (part_len q4 q2))
      have i0 : (0 : Int) ≤ (a : Int) := by omega
      have i1 : (a : Int) < (x2 : Int) := by omega
      have i2 : (x2 : Int) ≤ (l.length : Int) := by omega
      have i3 : a < cap := by omega
      have i4 : (a : Int) ≤ (x2 : Int) := by omega
      have i5 : (x2 : Int) ≤ (cap : Int) := by omega
      have i6 : ¬ cap = a := by omega
      have d1 : ¬ x2 < a := by omega
      have d2 : ¬ l.length < x2 := by omega
      clear q4 hA k2
      clear he
      have g1 : decide ((x2 : Int) < (a : Int)) = false := by simp; omega
      have g2 : decide (x2 < a) = false := by simp; omega
      have g3 : decide ((l.length : Int) < (x2 : Int)) = false := by simp; omega
      have g4 : decide (l.length < x2) = false := by simp; omega
      have S1 := b0.out
      refine wp_region_held (S := fun W => Below w.heap.size w W) (by kernel_rfl) ?_
      (change wpAnyH _ _ _ _ _ _ _ _ (World.drew w2))
      refine h_yes (i := 0) (.int .i64 e2) rfl (by kernel_rfl) (by kernel_rfl) (by kernel_rfl) (fun _ _ _ h => h) S1 (by kernel_rfl) ?_ ?_
      · intro W hW; go_simp
      try simp only [Act.put, List.setIfInBounds_toArray, List.set_cons_zero, List.set_cons_succ, List.getElem_toArray, List.getElem_cons_zero]
      refine h_yes (i := 1) (.bool true) rfl (by kernel_rfl) (by kernel_rfl) (by kernel_rfl) (fun _ _ _ h => h) S1 (by kernel_rfl) ?_ ?_
      · intro W hW; go_simp
      try simp only [Act.put, List.setIfInBounds_toArray, List.set_cons_zero, List.set_cons_succ, List.getElem_toArray, List.getElem_cons_zero, List.getElem_cons_succ]
      refine h_yes (i := 2) (.bool true) rfl (by kernel_rfl) (by kernel_rfl) (by kernel_rfl) (fun _ _ _ h => h) S1 (by kernel_rfl) ?_ ?_
      · intro W hW; go_simp
      try simp only [Act.put, List.setIfInBounds_toArray, List.set_cons_zero, List.set_cons_succ, List.getElem_toArray, List.getElem_cons_zero, List.getElem_cons_succ]
      refine h_yes (i := 3) (.int .i64 x2) rfl (by kernel_rfl) (by kernel_rfl) (by kernel_rfl) (fun _ _ _ h => h) S1 (by kernel_rfl) ?_ ?_
      · intro W hW; go_simp
      try simp only [Act.put, List.setIfInBounds_toArray, List.set_cons_zero, List.set_cons_succ, List.getElem_toArray, List.getElem_cons_zero, List.getElem_cons_succ]
      refine h_yes (i := 4) (.int .i64 a) rfl (by kernel_rfl) (by kernel_rfl) (by kernel_rfl) (fun _ _ _ h => h) S1 (by kernel_rfl) ?_ ?_
      · intro W hW; go_simp
      try simp only [Act.put, List.setIfInBounds_toArray, List.set_cons_zero, List.set_cons_succ, List.getElem_toArray, List.getElem_cons_zero, List.getElem_cons_succ]
      refine h_yes (i := 5) (.bool false) rfl (by kernel_rfl) (by kernel_rfl) (by kernel_rfl) (fun _ _ _ h => h) S1 (by kernel_rfl) ?_ ?_
      · intro W hW; go_simp
      try simp only [Act.put, List.setIfInBounds_toArray, List.set_cons_zero, List.set_cons_succ, List.getElem_toArray, List.getElem_cons_zero, List.getElem_cons_succ]
      refine h_yes (i := 6) (.bool false) rfl (by kernel_rfl) (by kernel_rfl) (by kernel_rfl) (fun _ _ _ h => h) S1 (by kernel_rfl) ?_ ?_
      · intro W hW; go_simp
      try simp only [Act.put, List.setIfInBounds_toArray, List.set_cons_zero, List.set_cons_succ, List.getElem_toArray, List.getElem_cons_zero, List.getElem_cons_succ]
      refine h_yes (i := 7) (.int .i64 x2) rfl (by kernel_rfl) (by kernel_rfl) (by kernel_rfl) (fun _ _ _ h => h) S1 (by kernel_rfl) ?_ ?_
      · intro W hW; go_simp
      try simp only [Act.put, List.setIfInBounds_toArray, List.set_cons_zero, List.set_cons_succ, List.getElem_toArray, List.getElem_cons_zero, List.getElem_cons_succ]
      refine h_yes (i := 8) (.slice (some ⟨b, o, none⟩) l.length cap) rfl (by kernel_rfl) (by kernel_rfl) (by kernel_rfl) (fun _ _ _ h => h) S1 (by kernel_rfl) ?_ ?_
      · intro W hW; go_simp
      try simp only [Act.put, List.setIfInBounds_toArray, List.set_cons_zero, List.set_cons_succ, List.getElem_toArray, List.getElem_cons_zero, List.getElem_cons_succ]
      refine h_yes (i := 9) (.int .i64 l.length) rfl (by kernel_rfl) (by kernel_rfl) (by kernel_rfl) (fun _ _ _ h => h) S1 (by kernel_rfl) ?_ ?_
      · intro W hW; go_simp
      try simp only [Act.put, List.setIfInBounds_toArray, List.set_cons_zero, List.set_cons_succ, List.getElem_toArray, List.getElem_cons_zero, List.getElem_cons_succ]
      refine h_yes (i := 10) (.bool false) rfl (by kernel_rfl) (by kernel_rfl) (by kernel_rfl) (fun _ _ _ h => h) S1 (by kernel_rfl) ?_ ?_
      · intro W hW; go_simp
      try simp only [Act.put, List.setIfInBounds_toArray, List.set_cons_zero, List.set_cons_succ, List.getElem_toArray, List.getElem_cons_zero, List.getElem_cons_succ]
      refine h_yes (i := 11) (.bool false) rfl (by kernel_rfl) (by kernel_rfl) (by kernel_rfl) (fun _ _ _ h => h) S1 (by kernel_rfl) ?_ ?_
      · intro W hW; go_simp
      try simp only [Act.put, List.setIfInBounds_toArray, List.set_cons_zero, List.set_cons_succ, List.getElem_toArray, List.getElem_cons_zero, List.getElem_cons_succ]
      refine h_yes (i := 12) (.bool false) rfl (by kernel_rfl) (by kernel_rfl) (by kernel_rfl) (fun _ _ _ h => h) S1 (by kernel_rfl) ?_ ?_
      · intro W hW; go_simp
      try simp only [Act.put, List.setIfInBounds_toArray, List.set_cons_zero, List.set_cons_succ, List.getElem_toArray, List.getElem_cons_zero, List.getElem_cons_succ]
      refine h_yes (i := 13) (.slice A2 v2.length c2) rfl (by kernel_rfl) (by kernel_rfl) (by kernel_rfl) (fun _ _ _ h => h) S1 (by kernel_rfl) ?_ ?_
      · intro W hW; go_simp
      try simp only [Act.put, List.setIfInBounds_toArray, List.set_cons_zero, List.set_cons_succ, List.getElem_toArray, List.getElem_cons_zero, List.getElem_cons_succ]
      refine h_yes (i := 16) (.slice (some ⟨b, o, none⟩) l.length cap) rfl (by kernel_rfl) (by kernel_rfl) (by kernel_rfl) (fun _ _ _ h => h) S1 (by kernel_rfl) ?_ ?_
      · intro W hW; go_simp
      try simp only [Act.put, List.setIfInBounds_toArray, List.set_cons_zero, List.set_cons_succ, List.getElem_toArray, List.getElem_cons_zero, List.getElem_cons_succ]
      refine h_yes (i := 17) (.int .i64 a) rfl (by kernel_rfl) (by kernel_rfl) (by kernel_rfl) (fun _ _ _ h => h) S1 (by kernel_rfl) ?_ ?_
      · intro W hW; go_simp
      try simp only [Act.put, List.setIfInBounds_toArray, List.set_cons_zero, List.set_cons_succ, List.getElem_toArray, List.getElem_cons_zero, List.getElem_cons_succ]
      refine h_yes (i := 18) (.int .i64 x2) rfl (by kernel_rfl) (by kernel_rfl) (by kernel_rfl) (fun _ _ _ h => h) S1 (by kernel_rfl) ?_ ?_
      · intro W hW; go_simp
      try simp only [Act.put, List.setIfInBounds_toArray, List.set_cons_zero, List.set_cons_succ, List.getElem_toArray, List.getElem_cons_zero, List.getElem_cons_succ]
      refine h_yes (i := 19) (.slice (some ⟨b, o + a, none⟩) (x2 - a) (cap - a)) rfl (by kernel_rfl) (by kernel_rfl) (by kernel_rfl) (fun _ _ _ h => h) S1 (by kernel_rfl) ?_ ?_
      · intro W hW; go_simp
      try simp only [Act.put, List.setIfInBounds_toArray, List.set_cons_zero, List.set_cons_succ, List.getElem_toArray, List.getElem_cons_zero, List.getElem_cons_succ]
      refine h_yes (i := 20) (.string ⟨(Bin.encB v2).toArray⟩) rfl (by kernel_rfl) (by kernel_rfl) (by kernel_rfl) (fun _ _ _ h => h) S1 (by kernel_rfl) ?_ ?_
      · intro W hW; have hk := kS.out W hW; go_simp
      try simp only [Act.put, List.setIfInBounds_toArray, List.set_cons_zero, List.set_cons_succ, List.getElem_toArray, List.getElem_cons_zero, List.getElem_cons_succ]
      refine h_call (i := 14) rfl (by kernel_rfl) (by kernel_rfl) ?_
      try simp only [List.getElem_toArray, List.getElem_cons_zero, List.getElem_cons_succ]
      go_simp
      go_at_call 36
      refine Calls.mono (putbytes_any A2 _ c2 v2 _ rfl (by omega) (lie_on L2.out ((Below.refl _ _).drew))) ?_
      intro e w5 h
      obtain ⟨A5, c5, rfl, k5, l5, b5⟩ := gives_str h rfl _ rfl
      clear h k5
      have S2 := chain S1 b5
      have B5 := hide S2
      have k5 := hide (fun W (hb : Below w5.heap.size w5 W) => str_of (c := c5) (lie_on l5 hb) rfl)
      refine ⟨S2, h_mono (S' := fun W => Below w5.heap.size w5 W) (fun W hW => chain S2 hW) _ _ _ _ ?_⟩
      try simp only [Act.put, List.setIfInBounds_toArray, List.set_cons_zero, List.set_cons_succ, List.getElem_toArray, List.getElem_cons_zero, List.getElem_cons_succ]
      refine h_yes (i := 15) (.string ⟨(Bin.encB v2).toArray⟩) rfl (by kernel_rfl) (by kernel_rfl) (by kernel_rfl) (fun _ _ _ h => h) (Below.refl _ _) (by kernel_rfl) ?_ ?_
      · intro W hW; have hk := k5.out W hW; go_simp
      try simp only [Act.put, List.setIfInBounds_toArray, List.set_cons_zero, List.set_cons_succ, List.getElem_toArray, List.getElem_cons_zero, List.getElem_cons_succ]
      refine h_yes (i := 21) (.bool false) rfl (by kernel_rfl) (by kernel_rfl) (by kernel_rfl) (fun _ _ _ h => h) (Below.refl _ _) (by kernel_rfl) ?_ ?_
      · intro W hW; go_simp
      try simp only [Act.put, List.setIfInBounds_toArray, List.set_cons_zero, List.set_cons_succ, List.getElem_toArray, List.getElem_cons_zero, List.getElem_cons_succ]
      refine h_yes (i := 22) (.bool false) rfl (by kernel_rfl) (by kernel_rfl) (by kernel_rfl) (fun _ _ _ h => h) (Below.refl _ _) (by kernel_rfl) ?_ ?_
      · intro W hW; go_simp
      try simp only [Act.put, List.setIfInBounds_toArray, List.set_cons_zero, List.set_cons_succ, List.getElem_toArray, List.getElem_cons_zero, List.getElem_cons_succ]
      refine h_yes (i := 23) (.bool false) rfl (by kernel_rfl) (by kernel_rfl) (by kernel_rfl) (fun _ _ _ h => h) (Below.refl _ _) (by kernel_rfl) ?_ ?_
      · intro W hW; go_simp
      try simp only [Act.put, List.setIfInBounds_toArray, List.set_cons_zero, List.set_cons_succ, List.getElem_toArray, List.getElem_cons_zero, List.getElem_cons_succ]
      refine wpAnyH_done (by kernel_rfl) ?_ _
      all_goals (go_wp2_with fail; go_meet; exact ⟨rfl, B5.out⟩)
    · have he1 : 0 < e2 := by omega
      have hne : ((e2 : Int) == 0) = false := by simp; omega
      clear he k2 hA
      go_quiet (fail)
      go_wp2_with fail
      go_meet
      exact ⟨rfl, below_drewN' hb2 _⟩
  case rest =>
  obtain ⟨rfl, hb1⟩ := hcut
  clear k2 b0 L2 hb2
  go_wp2_with fail
  refine Calls.mono (h3.out _ hb1) ?_
  intro e w3 h
  obtain ⟨A3, c3, rfl, L3, b3⟩ := gotl_lit h rfl rfl
  have L3 := hide L3
  have hb3 := chain hb1 b3
  have b0 : Hid (Below w.heap.size w w3.drew) := hb3.drew
  clear h h3 b3 hb1
  go_upto_region 10 with fail
  by_cases he : e3 = 0
  · have f0 : ((e3 : Int) == 0) = true := by simp; omega
    have f1 : ((e3 : Int) != 0) = false := by simp; omega
    obtain ⟨q1, q2, q3, q4⟩ := k3.out he
    try simp only at q1 q2 q3 q4
    have q3 := hide q3
    have n3' : v3.length ≤ 4096 := Nat.le_trans n3.out hl
    obtain ⟨b, o, rfl, _, _⟩ := hA.out (by rw [bytes_len]; omega)
    have kS := hide (fun (w1 : World) (hb : Below w.heap.size w w1) => part_str (c := cap - a) a (lie_on hA.out hb) q4 (part_len q4 q2))
    have i0 : (0 : Int) ≤ (a : Int) := by omega
    have i1 : (a : Int) < (x3 : Int) := by omega
    have i2 : (x3 : Int) ≤ (l.length : Int) := by omega
    have i3 : a < cap := by omega
    have i4 : (a : Int) ≤ (x3 : Int) := by omega
    have i5 : (x3 : Int) ≤ (cap : Int) := by omega
    have i6 : ¬ cap = a := by omega
    have i7 : a ≤ x3 := by omega
    have i8 : x3 ≤ l.length := by omega
    clear q4 hA k3 n3
    clear he
    have g1 : decide ((a : Int) ≤ (x3 : Int)) = true := by simp; omega
    have g2 : decide (a ≤ x3) = true := by simp; omega
    have g3 : decide ((x3 : Int) ≤ (l.length : Int)) = true := by simp; omega
    have g4 : decide (x3 ≤ l.length) = true := by simp; omega
    have S1 := b0.out
    refine wp_region_held (S := fun W => Below w.heap.size w W) (by kernel_rfl) ?_
    (change wpAnyH _ _ _ _ _ _ _ _ (World.drew w3))
    refine h_yes (i := 0) (.int .i64 e3) rfl (by kernel_rfl) (by kernel_rfl) (by kernel_rfl) (fun _ _ _ h => h) S1 (by kernel_rfl) ?_ ?_
    · intro W hW; go_simp
    try simp only [Act.put, List.setIfInBounds_toArray, List.set_cons_zero, List.set_cons_succ, List.getElem_toArray, List.getElem_cons_zero]
    refine h_yes (i := 1) (.bool false) rfl (by kernel_rfl) (by kernel_rfl) (by kernel_rfl) (fun _ _ _ h => h) S1 (by kernel_rfl) ?_ ?_
    · intro W hW; go_simp
    try simp only [Act.put, List.setIfInBounds_toArray, List.set_cons_zero, List.set_cons_succ, List.getElem_toArray, List.getElem_cons_zero, List.getElem_cons_succ]
    refine h_yes (i := 2) (.bool false) rfl (by kernel_rfl) (by kernel_rfl) (by kernel_rfl) (fun _ _ _ h => h) S1 (by kernel_rfl) ?_ ?_
    · intro W hW; go_simp
    try simp only [Act.put, List.setIfInBounds_toArray, List.set_cons_zero, List.set_cons_succ, List.getElem_toArray, List.getElem_cons_zero, List.getElem_cons_succ]
    refine h_yes (i := 3) (.int .i64 x3) rfl (by kernel_rfl) (by kernel_rfl) (by kernel_rfl) (fun _ _ _ h => h) S1 (by kernel_rfl) ?_ ?_
    · intro W hW; go_simp
    try simp only [Act.put, List.setIfInBounds_toArray, List.set_cons_zero, List.set_cons_succ, List.getElem_toArray, List.getElem_cons_zero, List.getElem_cons_succ]
    refine h_yes (i := 4) (.int .i64 a) rfl (by kernel_rfl) (by kernel_rfl) (by kernel_rfl) (fun _ _ _ h => h) S1 (by kernel_rfl) ?_ ?_
    · intro W hW; go_simp
    try simp only [Act.put, List.setIfInBounds_toArray, List.set_cons_zero, List.set_cons_succ, List.getElem_toArray, List.getElem_cons_zero, List.getElem_cons_succ]
    refine h_yes (i := 5) (.bool true) rfl (by kernel_rfl) (by kernel_rfl) (by kernel_rfl) (fun _ _ _ h => h) S1 (by kernel_rfl) ?_ ?_
    · intro W hW; go_simp
    try simp only [Act.put, List.setIfInBounds_toArray, List.set_cons_zero, List.set_cons_succ, List.getElem_toArray, List.getElem_cons_zero, List.getElem_cons_succ]
    refine h_yes (i := 6) (.bool true) rfl (by kernel_rfl) (by kernel_rfl) (by kernel_rfl) (fun _ _ _ h => h) S1 (by kernel_rfl) ?_ ?_
    · intro W hW; go_simp
    try simp only [Act.put, List.setIfInBounds_toArray, List.set_cons_zero, List.set_cons_succ, List.getElem_toArray, List.getElem_cons_zero, List.getElem_cons_succ]
    refine h_yes (i := 7) (.int .i64 x3) rfl (by kernel_rfl) (by kernel_rfl) (by kernel_rfl) (fun _ _ _ h => h) S1 (by kernel_rfl) ?_ ?_
    · intro W hW; go_simp
    try simp only [Act.put, List.setIfInBounds_toArray, List.set_cons_zero, List.set_cons_succ, List.getElem_toArray, List.getElem_cons_zero, List.getElem_cons_succ]
    refine h_yes (i := 8) (.slice (some ⟨b, o, none⟩) l.length cap) rfl (by kernel_rfl) (by kernel_rfl) (by kernel_rfl) (fun _ _ _ h => h) S1 (by kernel_rfl) ?_ ?_
    · intro W hW; go_simp
    try simp only [Act.put, List.setIfInBounds_toArray, List.set_cons_zero, List.set_cons_succ, List.getElem_toArray, List.getElem_cons_zero, List.getElem_cons_succ]
    refine h_yes (i := 9) (.int .i64 l.length) rfl (by kernel_rfl) (by kernel_rfl) (by kernel_rfl) (fun _ _ _ h => h) S1 (by kernel_rfl) ?_ ?_
    · intro W hW; go_simp
    try simp only [Act.put, List.setIfInBounds_toArray, List.set_cons_zero, List.set_cons_succ, List.getElem_toArray, List.getElem_cons_zero, List.getElem_cons_succ]
    refine h_yes (i := 10) (.bool true) rfl (by kernel_rfl) (by kernel_rfl) (by kernel_rfl) (fun _ _ _ h => h) S1 (by kernel_rfl) ?_ ?_
    · intro W hW; go_simp
    try simp only [Act.put, List.setIfInBounds_toArray, List.set_cons_zero, List.set_cons_succ, List.getElem_toArray, List.getElem_cons_zero, List.getElem_cons_succ]
    refine h_yes (i := 11) (.bool true) rfl (by kernel_rfl) (by kernel_rfl) (by kernel_rfl) (fun _ _ _ h => h) S1 (by kernel_rfl) ?_ ?_
    · intro W hW; go_simp
    try simp only [Act.put, List.setIfInBounds_toArray, List.set_cons_zero, List.set_cons_succ, List.getElem_toArray, List.getElem_cons_zero, List.getElem_cons_succ]
    refine h_yes (i := 12) (.bool true) rfl (by kernel_rfl) (by kernel_rfl) (by kernel_rfl) (fun _ _ _ h => h) S1 (by kernel_rfl) ?_ ?_
    · intro W hW; go_simp
    try simp only [Act.put, List.setIfInBounds_toArray, List.set_cons_zero, List.set_cons_succ, List.getElem_toArray, List.getElem_cons_zero, List.getElem_cons_succ]
    refine h_yes (i := 13) (.slice A3 v3.length c3) rfl (by kernel_rfl) (by kernel_rfl) (by kernel_rfl) (fun _ _ _ h => h) S1 (by kernel_rfl) ?_ ?_
    · intro W hW; go_simp
    try simp only [Act.put, List.setIfInBounds_toArray, List.set_cons_zero, List.set_cons_succ, List.getElem_toArray, List.getElem_cons_zero, List.getElem_cons_succ]
    refine h_yes (i := 16) (.slice (some ⟨b, o, none⟩) l.length cap) rfl (by kernel_rfl) (by kernel_rfl) (by kernel_rfl) (fun _ _ _ h => h) S1 (by kernel_rfl) ?_ ?_
    · intro W hW; go_simp
    try simp only [Act.put, List.setIfInBounds_toArray, List.set_cons_zero, List.set_cons_succ, List.getElem_toArray, List.getElem_cons_zero, List.getElem_cons_succ]
    refine h_yes (i := 17) (.int .i64 a) rfl (by kernel_rfl) (by kernel_rfl) (by kernel_rfl) (fun _ _ _ h => h) S1 (by kernel_rfl) ?_ ?_
    · intro W hW; go_simp
    try simp only [Act.put, List.setIfInBounds_toArray, List.set_cons_zero, List.set_cons_succ, List.getElem_toArray, List.getElem_cons_zero, List.getElem_cons_succ]
    refine h_yes (i := 18) (.int .i64 x3) rfl (by kernel_rfl) (by kernel_rfl) (by kernel_rfl) (fun _ _ _ h => h) S1 (by kernel_rfl) ?_ ?_
    · intro W hW; go_simp
    try simp only [Act.put, List.setIfInBounds_toArray, List.set_cons_zero, List.set_cons_succ, List.getElem_toArray, List.getElem_cons_zero, List.getElem_cons_succ]
    refine h_yes (i := 19) (.slice (some ⟨b, o + a, none⟩) (x3 - a) (cap - a)) rfl (by kernel_rfl) (by kernel_rfl) (by kernel_rfl) (fun _ _ _ h => h) S1 (by kernel_rfl) ?_ ?_
    · intro W hW; go_simp
    try simp only [Act.put, List.setIfInBounds_toArray, List.set_cons_zero, List.set_cons_succ, List.getElem_toArray, List.getElem_cons_zero, List.getElem_cons_succ]
    refine h_yes (i := 20) (.string ⟨(Bin.encL v3).toArray⟩) rfl (by kernel_rfl) (by kernel_rfl) (by kernel_rfl) (fun _ _ _ h => h) S1 (by kernel_rfl) ?_ ?_
    · intro W hW; have hk := kS.out W hW; go_simp
    try simp only [Act.put, List.setIfInBounds_toArray, List.set_cons_zero, List.set_cons_succ, List.getElem_toArray, List.getElem_cons_zero, List.getElem_cons_succ]
    refine h_call (i := 14) rfl (by kernel_rfl) (by kernel_rfl) ?_
    try simp only [List.getElem_toArray, List.getElem_cons_zero, List.getElem_cons_succ]
    go_simp
    go_at_call 38
    refine Calls.mono (putints_any A3 _ c3 v3 _ rfl (by omega) q3.out (lie_on L3.out ((Below.refl _ _).drew))) ?_
    intro e w5 h
    obtain ⟨A5, c5, rfl, k5, l5, b5⟩ := gives_str h rfl _ rfl
    clear h k5
    have S2 := chain S1 b5
    have B5 := hide S2
    have k5 := hide (fun W (hb : Below w5.heap.size w5 W) => str_of (c := c5) (lie_on l5 hb) rfl)
    refine ⟨S2, h_mono (S' := fun W => Below w5.heap.size w5 W) (fun W hW => chain S2 hW) _ _ _ _ ?_⟩
    try simp only [Act.put, List.setIfInBounds_toArray, List.set_cons_zero, List.set_cons_succ, List.getElem_toArray, List.getElem_cons_zero, List.getElem_cons_succ]
    refine h_yes (i := 15) (.string ⟨(Bin.encL v3).toArray⟩) rfl (by kernel_rfl) (by kernel_rfl) (by kernel_rfl) (fun _ _ _ h => h) (Below.refl _ _) (by kernel_rfl) ?_ ?_
    · intro W hW; have hk := k5.out W hW; go_simp
    try simp only [Act.put, List.setIfInBounds_toArray, List.set_cons_zero, List.set_cons_succ, List.getElem_toArray, List.getElem_cons_zero, List.getElem_cons_succ]
    refine h_yes (i := 21) (.bool true) rfl (by kernel_rfl) (by kernel_rfl) (by kernel_rfl) (fun _ _ _ h => h) (Below.refl _ _) (by kernel_rfl) ?_ ?_
    · intro W hW; go_simp
    try simp only [Act.put, List.setIfInBounds_toArray, List.set_cons_zero, List.set_cons_succ, List.getElem_toArray, List.getElem_cons_zero, List.getElem_cons_succ]
    refine h_yes (i := 22) (.bool true) rfl (by kernel_rfl) (by kernel_rfl) (by kernel_rfl) (fun _ _ _ h => h) (Below.refl _ _) (by kernel_rfl) ?_ ?_
    · intro W hW; go_simp
    try simp only [Act.put, List.setIfInBounds_toArray, List.set_cons_zero, List.set_cons_succ, List.getElem_toArray, List.getElem_cons_zero, List.getElem_cons_succ]
    refine h_yes (i := 23) (.bool true) rfl (by kernel_rfl) (by kernel_rfl) (by kernel_rfl) (fun _ _ _ h => h) (Below.refl _ _) (by kernel_rfl) ?_ ?_
    · intro W hW; go_simp
    try simp only [Act.put, List.setIfInBounds_toArray, List.set_cons_zero, List.set_cons_succ, List.getElem_toArray, List.getElem_cons_zero, List.getElem_cons_succ]
    refine h_yes (i := 24) (.bool true) rfl (by kernel_rfl) (by kernel_rfl) (by kernel_rfl) (fun _ _ _ h => h) (Below.refl _ _) (by kernel_rfl) ?_ ?_
    · intro W hW; go_simp
    try simp only [Act.put, List.setIfInBounds_toArray, List.set_cons_zero, List.set_cons_succ, List.getElem_toArray, List.getElem_cons_zero, List.getElem_cons_succ]
    refine h_call (i := 25) rfl (by kernel_rfl) (by kernel_rfl) ?_
    try simp only [List.getElem_toArray, List.getElem_cons_zero, List.getElem_cons_succ]
    go_simp
    go_at_call 30
    refine Calls.mono (example11_any _) ?_
    rintro e w7 ⟨rfl, b7⟩
    have S3 := chain S2 b7
    have B7 := hide S3
    refine ⟨b7, ?_⟩
    try simp only [Act.put, List.setIfInBounds_toArray, List.set_cons_zero, List.set_cons_succ, List.getElem_toArray, List.getElem_cons_zero, List.getElem_cons_succ]
    refine h_yes (i := 26) (.bool true) rfl (by kernel_rfl) (by kernel_rfl) (by kernel_rfl) (fun _ _ _ h => h) b7 (by kernel_rfl) ?_ ?_
    · intro W hW; go_simp
    try simp only [Act.put, List.setIfInBounds_toArray, List.set_cons_zero, List.set_cons_succ, List.getElem_toArray, List.getElem_cons_zero, List.getElem_cons_succ]
    refine h_yes (i := 27) (.bool true) rfl (by kernel_rfl) (by kernel_rfl) (by kernel_rfl) (fun _ _ _ h => h) b7 (by kernel_rfl) ?_ ?_
    · intro W hW; go_simp
    try simp only [Act.put, List.setIfInBounds_toArray, List.set_cons_zero, List.set_cons_succ, List.getElem_toArray, List.getElem_cons_zero, List.getElem_cons_succ]
    refine wpAnyH_done (by kernel_rfl) ?_ _
    all_goals (go_wp2_with fail; go_ret; exact ⟨rfl, B7.out⟩)
  · have hne : ((e3 : Int) != 0) = true := by simp; omega
    have hne2 : ((e3 : Int) == 0) = false := by simp; omega
    clear he k3 hA n3
    have S1 := b0.out
    refine wp_region_held (S := fun W => Below w.heap.size w W) (by kernel_rfl) ?_
    (change wpAnyH _ _ _ _ _ _ _ _ (World.drew w3))
    refine h_yes (i := 0) (.int .i64 e3) rfl (by kernel_rfl) (by kernel_rfl) (by kernel_rfl) (fun _ _ _ h => h) S1 (by kernel_rfl) ?_ ?_
    · intro W hW; go_simp
    try simp only [Act.put, List.setIfInBounds_toArray, List.set_cons_zero, List.set_cons_succ, List.getElem_toArray, List.getElem_cons_zero]
    refine h_yes (i := 1) (.bool true) rfl (by kernel_rfl) (by kernel_rfl) (by kernel_rfl) (fun _ _ _ h => h) S1 (by kernel_rfl) ?_ ?_
    · intro W hW; go_simp
    try simp only [Act.put, List.setIfInBounds_toArray, List.set_cons_zero, List.set_cons_succ, List.getElem_toArray, List.getElem_cons_zero, List.getElem_cons_succ]
    refine h_yes (i := 2) (.bool true) rfl (by kernel_rfl) (by kernel_rfl) (by kernel_rfl) (fun _ _ _ h => h) S1 (by kernel_rfl) ?_ ?_
    · intro W hW; go_simp
    try simp only [Act.put, List.setIfInBounds_toArray, List.set_cons_zero, List.set_cons_succ, List.getElem_toArray, List.getElem_cons_zero, List.getElem_cons_succ]
    refine h_no (i := 3) rfl (by kernel_rfl) (by kernel_rfl) (by kernel_rfl) (fun _ _ _ h => h) S1 (by kernel_rfl) ?_
    try simp only [Act.put, List.setIfInBounds_toArray, List.set_cons_zero, List.set_cons_succ, List.getElem_toArray, List.getElem_cons_zero, List.getElem_cons_succ]
    refine h_no (i := 4) rfl (by kernel_rfl) (by kernel_rfl) (by kernel_rfl) (fun _ _ _ h => h) S1 (by kernel_rfl) ?_
    try simp only [Act.put, List.setIfInBounds_toArray, List.set_cons_zero, List.set_cons_succ, List.getElem_toArray, List.getElem_cons_zero, List.getElem_cons_succ]
    refine h_no (i := 5) rfl (by kernel_rfl) (by kernel_rfl) (by kernel_rfl) (fun _ _ _ h => h) S1 (by kernel_rfl) ?_
    try simp only [Act.put, List.setIfInBounds_toArray, List.set_cons_zero, List.set_cons_succ, List.getElem_toArray, List.getElem_cons_zero, List.getElem_cons_succ]
    refine h_no (i := 6) rfl (by kernel_rfl) (by kernel_rfl) (by kernel_rfl) (fun _ _ _ h => h) S1 (by kernel_rfl) ?_
    try simp only [Act.put, List.setIfInBounds_toArray, List.set_cons_zero, List.set_cons_succ, List.getElem_toArray, List.getElem_cons_zero, List.getElem_cons_succ]
    refine h_no (i := 7) rfl (by kernel_rfl) (by kernel_rfl) (by kernel_rfl) (fun _ _ _ h => h) S1 (by kernel_rfl) ?_
    try simp only [Act.put, List.setIfInBounds_toArray, List.set_cons_zero, List.set_cons_succ, List.getElem_toArray, List.getElem_cons_zero, List.getElem_cons_succ]
    refine h_no (i := 8) rfl (by kernel_rfl) (by kernel_rfl) (by kernel_rfl) (fun _ _ _ h => h) S1 (by kernel_rfl) ?_
    try simp only [Act.put, List.setIfInBounds_toArray, List.set_cons_zero, List.set_cons_succ, List.getElem_toArray, List.getElem_cons_zero, List.getElem_cons_succ]
    refine h_no (i := 9) rfl (by kernel_rfl) (by kernel_rfl) (by kernel_rfl) (fun _ _ _ h => h) S1 (by kernel_rfl) ?_
    try simp only [Act.put, List.setIfInBounds_toArray, List.set_cons_zero, List.set_cons_succ, List.getElem_toArray, List.getElem_cons_zero, List.getElem_cons_succ]
    refine h_no (i := 10) rfl (by kernel_rfl) (by kernel_rfl) (by kernel_rfl) (fun _ _ _ h => h) S1 (by kernel_rfl) ?_
    try simp only [Act.put, List.setIfInBounds_toArray, List.set_cons_zero, List.set_cons_succ, List.getElem_toArray, List.getElem_cons_zero, List.getElem_cons_succ]
    refine h_no (i := 11) rfl (by kernel_rfl) (by kernel_rfl) (by kernel_rfl) (fun _ _ _ h => h) S1 (by kernel_rfl) ?_
    try simp only [Act.put, List.setIfInBounds_toArray, List.set_cons_zero, List.set_cons_succ, List.getElem_toArray, List.getElem_cons_zero, List.getElem_cons_succ]
    refine h_no (i := 12) rfl (by kernel_rfl) (by kernel_rfl) (by kernel_rfl) (fun _ _ _ h => h) S1 (by kernel_rfl) ?_
    try simp only [Act.put, List.setIfInBounds_toArray, List.set_cons_zero, List.set_cons_succ, List.getElem_toArray, List.getElem_cons_zero, List.getElem_cons_succ]
    refine h_no (i := 13) rfl (by kernel_rfl) (by kernel_rfl) (by kernel_rfl) (fun _ _ _ h => h) S1 (by kernel_rfl) ?_
    try simp only [Act.put, List.setIfInBounds_toArray, List.set_cons_zero, List.set_cons_succ, List.getElem_toArray, List.getElem_cons_zero, List.getElem_cons_succ]
    refine h_no (i := 14) rfl (by kernel_rfl) (by kernel_rfl) (by kernel_rfl) (fun _ _ _ h => h) S1 (by kernel_rfl) ?_
    try simp only [Act.put, List.setIfInBounds_toArray, List.set_cons_zero, List.set_cons_succ, List.getElem_toArray, List.getElem_cons_zero, List.getElem_cons_succ]
    refine h_no (i := 15) rfl (by kernel_rfl) (by kernel_rfl) (by kernel_rfl) (fun _ _ _ h => h) S1 (by kernel_rfl) ?_
    try simp only [Act.put, List.setIfInBounds_toArray, List.set_cons_zero, List.set_cons_succ, List.getElem_toArray, List.getElem_cons_zero, List.getElem_cons_succ]
    refine h_no (i := 16) rfl (by kernel_rfl) (by kernel_rfl) (by kernel_rfl) (fun _ _ _ h => h) S1 (by kernel_rfl) ?_
    try simp only [Act.put, List.setIfInBounds_toArray, List.set_cons_zero, List.set_cons_succ, List.getElem_toArray, List.getElem_cons_zero, List.getElem_cons_succ]
    refine h_no (i := 17) rfl (by kernel_rfl) (by kernel_rfl) (by kernel_rfl) (fun _ _ _ h => h) S1 (by kernel_rfl) ?_
    try simp only [Act.put, List.setIfInBounds_toArray, List.set_cons_zero, List.set_cons_succ, List.getElem_toArray, List.getElem_cons_zero, List.getElem_cons_succ]
    refine h_no (i := 18) rfl (by kernel_rfl) (by kernel_rfl) (by kernel_rfl) (fun _ _ _ h => h) S1 (by kernel_rfl) ?_
    try simp only [Act.put, List.setIfInBounds_toArray, List.set_cons_zero, List.set_cons_succ, List.getElem_toArray, List.getElem_cons_zero, List.getElem_cons_succ]
    refine h_no (i := 19) rfl (by kernel_rfl) (by kernel_rfl) (by kernel_rfl) (fun _ _ _ h => h) S1 (by kernel_rfl) ?_
    try simp only [Act.put, List.setIfInBounds_toArray, List.set_cons_zero, List.set_cons_succ, List.getElem_toArray, List.getElem_cons_zero, List.getElem_cons_succ]
    refine h_no (i := 20) rfl (by kernel_rfl) (by kernel_rfl) (by kernel_rfl) (fun _ _ _ h => h) S1 (by kernel_rfl) ?_
    try simp only [Act.put, List.setIfInBounds_toArray, List.set_cons_zero, List.set_cons_succ, List.getElem_toArray, List.getElem_cons_zero, List.getElem_cons_succ]
    refine h_no (i := 21) rfl (by kernel_rfl) (by kernel_rfl) (by kernel_rfl) (fun _ _ _ h => h) S1 (by kernel_rfl) ?_
    try simp only [Act.put, List.setIfInBounds_toArray, List.set_cons_zero, List.set_cons_succ, List.getElem_toArray, List.getElem_cons_zero, List.getElem_cons_succ]
    refine h_no (i := 22) rfl (by kernel_rfl) (by kernel_rfl) (by kernel_rfl) (fun _ _ _ h => h) S1 (by kernel_rfl) ?_
    try simp only [Act.put, List.setIfInBounds_toArray, List.set_cons_zero, List.set_cons_succ, List.getElem_toArray, List.getElem_cons_zero, List.getElem_cons_succ]
    refine h_yes (i := 23) (.bool true) rfl (by kernel_rfl) (by kernel_rfl) (by kernel_rfl) (fun _ _ _ h => h) S1 (by kernel_rfl) ?_ ?_
    · intro W hW; go_simp
    try simp only [Act.put, List.setIfInBounds_toArray, List.set_cons_zero, List.set_cons_succ, List.getElem_toArray, List.getElem_cons_zero, List.getElem_cons_succ]
    refine h_yes (i := 24) (.bool true) rfl (by kernel_rfl) (by kernel_rfl) (by kernel_rfl) (fun _ _ _ h => h) S1 (by kernel_rfl) ?_ ?_
    · intro W hW; go_simp
    try simp only [Act.put, List.setIfInBounds_toArray, List.set_cons_zero, List.set_cons_succ, List.getElem_toArray, List.getElem_cons_zero, List.getElem_cons_succ]
    refine h_call (i := 25) rfl (by kernel_rfl) (by kernel_rfl) ?_
    try simp only [List.getElem_toArray, List.getElem_cons_zero, List.getElem_cons_succ]
    go_simp
    go_at_call 30
    refine Calls.mono (example11_any _) ?_
    rintro e w7 ⟨rfl, b7⟩
    have S2 := chain S1 b7
    refine ⟨S2, ?_⟩
    try simp only [Act.put, List.setIfInBounds_toArray, List.set_cons_zero, List.set_cons_succ, List.getElem_toArray, List.getElem_cons_zero, List.getElem_cons_succ]
    refine h_yes (i := 26) (.bool true) rfl (by kernel_rfl) (by kernel_rfl) (by kernel_rfl) (fun _ _ _ h => h) S2 (by kernel_rfl) ?_ ?_
    · intro W hW; go_simp
    try simp only [Act.put, List.setIfInBounds_toArray, List.set_cons_zero, List.set_cons_succ, List.getElem_toArray, List.getElem_cons_zero, List.getElem_cons_succ]
    refine h_yes (i := 27) (.bool true) rfl (by kernel_rfl) (by kernel_rfl) (by kernel_rfl) (fun _ _ _ h => h) S2 (by kernel_rfl) ?_ ?_
    · intro W hW; go_simp
    try simp only [Act.put, List.setIfInBounds_toArray, List.set_cons_zero, List.set_cons_succ, List.getElem_toArray, List.getElem_cons_zero, List.getElem_cons_succ]
    refine wpAnyH_done (by kernel_rfl) ?_ _
    go_wp2_with fail
    go_ret
    exact ⟨rfl, S2⟩

set_option maxRecDepth 100000 in
set_option maxHeartbeats 800000 in
theorem walk_BinencUnique (a0 : Option Addr) (len0 cap0 : Nat) (z0 : List Int) (a1 : Int) (w : World) (w0 : IsRow .u8 w a0 len0 cap0 z0) (w1 : (Lit.int .i64 a1).wf = true) :
    Calls Try.prog 6 #[.slice a0 len0 cap0, .int .i64 a1] w fun e w' => e = .returned (.bool true) ∧ Below w.heap.size w w' := by
  obtain ⟨l, rfl, hcap, hA⟩ := row_bytes w0
  clear w0 w1
  by_cases h1 : 4096 < l.length
  · go_enter Try.func6, Try.ntmps6
    go_wp2_with (go_at_call 30; refine (example11_any _).mono ?_; rintro e w1 ⟨rfl, hb1⟩)
    go_ret
    exact ⟨rfl, hb1⟩
  by_cases h2 : a1 < 0
  · go_enter Try.func6, Try.ntmps6
    go_wp2_with (go_at_call 30; refine (example11_any _).mono ?_; rintro e w1 ⟨rfl, hb1⟩)
    go_ret
    exact ⟨rfl, hb1⟩
  by_cases h3 : (l.length : Int) < a1
  · go_enter Try.func6, Try.ntmps6
    go_wp2_with (go_at_call 30; refine (example11_any _).mono ?_; rintro e w1 ⟨rfl, hb1⟩)
    go_ret
    exact ⟨rfl, hb1⟩
  obtain ⟨a, rfl⟩ : ∃ n : Nat, a1 = (n : Int) := ⟨a1.toNat, by omega⟩
  exact unique_main a0 cap0 l a w (by omega) (by omega) hcap hA
end Go.Proofs.Ytjbdfmniiiaakaa
