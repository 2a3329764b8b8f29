/- The walk of the law JournalRecovery, for every input. -/
import Derived.Test.YtjbdfmniiiaakaaJsm
import Derived.Test.YtjbdfmniiiaakaaOrd
import Derived.Deep.RegionWith
namespace Go.Proofs.Ytjbdfmniiiaakaa
set_option linter.unusedVariables false
open Go.RowKit
open Ent (E)
open Jou (encJ)

theorem lie_cut {w : World} {B a : Nat} {A : Option Addr} {M N : List UInt8} (h : Lie w B A (bytes M)) (e : M.take a = N) : Lie w B A (bytes N) := by subst e; exact lie_take h a
/-- what a beginning of a journal's bytes is recovered to. -/
theorem cut_law (p : List E) (cut : Nat) (hp : Jou.Ok [] p) (hc : cut ≤ (encJ p).length) : ∃ (m a er : Nat) (q : List E), Jou.recover ((encJ p).take cut) = (q, a, er) ∧ m ≤ p.length ∧ p.take m = q ∧ q.length = m ∧ (∀ x ∈ q, Ent.check x = 0) ∧ encJ q = (encJ p).take a ∧ a ≤ cut ∧
    ((er = 0 ∧ a = cut) ∨ (er = 4 ∧ a ≠ cut)) ∧ (m = p.length → a = (encJ p).length) ∧ (m < p.length → Jou.keep [] (p.take (m + 1)) = p.take (m + 1) ∧ (∀ x ∈ p.take (m + 1), Ent.check x = 0) ∧ cut < (encJ (p.take (m + 1))).length) := by
  obtain ⟨m, h1, h2, h3, h4, h5⟩ := Jou.recover_cut p cut hc hp
  have hok := Jou.Ok_take p m hp
  have hcat : encJ p = encJ (p.take m) ++ encJ (p.drop m) := by rw [← Jou.encJ_append, List.take_append_drop]
  refine ⟨m, _, _, p.take m, h2, h1, rfl, List.length_take_of_le h1, ok_check hok, ?_, h3, ?_, ?_, ?_⟩
  · conv => rhs; rw [hcat]
    rw [List.take_left]
  · by_cases h : (encJ (p.take m)).length = cut
    · rw [if_pos h]; exact .inl ⟨rfl, h⟩
    · rw [if_neg h]; exact .inr ⟨rfl, h⟩
  · intro h
    rw [h, List.take_length]
  · intro h
    have hok1 := Jou.Ok_take p (m + 1) hp
    exact ⟨by rw [Jou.keep_of_ok _ _ hok1]; rfl, ok_check hok1, h4 h⟩

set_option maxRecDepth 100000 in
set_option maxHeartbeats 12800000 in
theorem recovery_main (a0 : Option Addr) (cap0 : Nat) (l : List E) (cut : Nat) (w : World) (hs : smallB l = true) (hG : ∀ x ∈ l, GoodE x) (hA : Lie w w.heap.size a0 (flat l)) (hcut : cut ≤ (encJ (Jou.keep [] l)).length) :
    Calls Try.prog 20 #[.slice a0 l.length cap0, .int .i64 cut] w fun e w' => e = .returned (.bool true) ∧ Below w.heap.size w w' := by
  have HS := small_any a0 _ cap0 l w rfl hG hA
  rw [hs] at HS
  obtain ⟨h30, -⟩ := smallB_yes hs
  have hK := kept_mk hs
  have HM := made_any a0 _ cap0 l w rfl (by omega) hA
  generalize Jou.keep [] l = p at hK HM hcut
  obtain ⟨p1, p2, p3, p4⟩ := hK
  obtain ⟨m, a, er, q, r1, r2, r3, r4, r5, r6, r7, r8, r9, r10⟩ := cut_law p cut p1 hcut
  have HBp := hide (fun g W (h : JR W g p) => jbytes_any g p W h p2 (by omega))
  have HBq := fun g W (h : JR W g q) => jbytes_any g q W h r5 (by omega)
  rw [r6] at HBq
  have HR := fun (W : World) (A : Option Addr) (c : Nat) (h0 : cut ≤ c) (h : Lie W W.heap.size A (bytes ((encJ p).take cut))) => recover_any A cut c ((encJ p).take cut) W (by rw [List.length_take_of_le hcut]) (by rw [List.length_take_of_le hcut]; omega) h0 h
  rw [r1] at HR
  generalize encJ p = M at HBp HBq HR p4 hcut r9
  have haM : a ≤ M.length := by omega
  have hta := (show (M.take a).length = a from List.length_take_of_le haM)
  obtain ⟨MA, hMA⟩ : ∃ MA, Hid (M.take a = MA) := ⟨_, hide rfl⟩
  rw [hMA.out] at HBq hta
  have HBq' := hide HBq
  have hta' := hide hta
  have HR' := hide HR
  have hq := hide r3
  have ql := hide r4
  have hend := hide r9
  have hmor := hide r10
  have HS' := hide HS
  have HM' := hide HM
  clear hG hA hs HS HM p1 p2 HBq HR r1 r3 r4 r5 r6 r9 r10 hta
  go_enter Try.func20, Try.ntmps20
  go_wp2_with fail
  refine Calls.mono HS'.out ?_
  rintro e w1 ⟨rfl, rfl⟩
  go_wp2_with fail
  refine Calls.mono HM'.out ?_
  rintro e w1 ⟨g, R, rfl, j1, b1, -, -⟩
  have J1 := hide j1.read
  have B1 := hide b1
  clear j1 b1 HS' HM'
  go_wp2_with fail
  refine Calls.mono (HBp.out g _ J1.out) ?_
  rintro e w2 ⟨A2, c2, rfl, o2, b2⟩
  have J2 := hide (J1.out.below b2)
  have B2 := hide (chain B1.out b2)
  have hc2 := own_le' o2
  have LM2 := hide (Lie.of_own o2)
  clear o2 b2 J1 B1 HBp
  have i1 : (cut : Int) ≤ (M.length : Int) := by omega
  have i2 : (cut : Int) ≤ (c2 : Int) := by omega
  go_wp2_with fail
  refine Calls.mono (HR'.out _ A2 c2 (by omega) (lie_take LM2.out cut)) ?_
  rintro e w3 ⟨gr, Rr, rfl, k3, b3, -, -⟩
  simp only at k3 ⊢
  have J3 := hide ((J2.out.below b3).below ((Below.refl _ _).drew))
  have K3 := hide (k3.read.below ((Below.refl _ _).drew))
  have LM3 := hide ((LM2.out.on b3).on ((Below.refl _ _).drew))
  have B3 := hide (chain B2.out b3).drew
  clear b3 k3 J2 LM2 B2 HR'
  have i3 : (0 : Int) ≤ (a : Int) := by omega
  have i4 : (a : Int) ≤ (cut : Int) := by omega
  have i5 : (a : Int) ≤ (M.length : Int) := by omega
  have i6 : (a : Int) ≤ (c2 : Int) := by omega
  go_upto_region 10 with fail
  have d0 : decide ((a : Int) < 0) = false := by simp
  have d1 : decide (cut < a) = false := by simp; omega
  have d2 : decide ((cut : Int) < (a : Int)) = false := by simp; omega
  rcases r8 with ⟨e0, r8⟩ | ⟨e0, r8⟩
  · have f0 : ((er : Int) == 0) = true := by simp; omega
    have f1 : ((a : Int) == (cut : Int)) = true := by simp; omega
    have f2 : ((er : Int) != 0) = false := by simp; omega
    clear r8 e0
    refine wp_region_held (S := fun W => Below w3.drew.heap.size w3.drew W) (by kernel_rfl) ?_
    (change wpAnyH _ _ _ _ _ _ _ _ (World.drew w3))
    have S1 := Below.refl w3.drew.heap.size w3.drew
    refine h_yes (i := 0) (.pointer (some ⟨gr, 0, none⟩)) rfl (by kernel_rfl) (by kernel_rfl) (by kernel_rfl) (fun _ _ _ h => h) S1 (by kernel_rfl) ?_ ?_
    · intro W hW; go_simp
    try simp only [Act.put, List.setIfInBounds_toArray, List.set_cons_zero, List.set_cons_succ, List.getElem_toArray, List.getElem_cons_zero]
    refine h_yes (i := 1) (.bool false) rfl (by kernel_rfl) (by kernel_rfl) (by kernel_rfl) (fun _ _ _ h => h) S1 (by kernel_rfl) ?_ ?_
    · intro W hW; go_simp
    try simp only [Act.put, List.setIfInBounds_toArray, List.set_cons_zero, List.set_cons_succ, List.getElem_toArray, List.getElem_cons_zero, List.getElem_cons_succ]
    refine h_yes (i := 2) (.bool false) rfl (by kernel_rfl) (by kernel_rfl) (by kernel_rfl) (fun _ _ _ h => h) S1 (by kernel_rfl) ?_ ?_
    · intro W hW; go_simp
    try simp only [Act.put, List.setIfInBounds_toArray, List.set_cons_zero, List.set_cons_succ, List.getElem_toArray, List.getElem_cons_zero, List.getElem_cons_succ]
    refine h_yes (i := 3) (.int .i64 a) rfl (by kernel_rfl) (by kernel_rfl) (by kernel_rfl) (fun _ _ _ h => h) S1 (by kernel_rfl) ?_ ?_
    · intro W hW; go_simp
    try simp only [Act.put, List.setIfInBounds_toArray, List.set_cons_zero, List.set_cons_succ, List.getElem_toArray, List.getElem_cons_zero, List.getElem_cons_succ]
    refine h_yes (i := 4) (.bool false) rfl (by kernel_rfl) (by kernel_rfl) (by kernel_rfl) (fun _ _ _ h => h) S1 (by kernel_rfl) ?_ ?_
    · intro W hW; go_simp
    try simp only [Act.put, List.setIfInBounds_toArray, List.set_cons_zero, List.set_cons_succ, List.getElem_toArray, List.getElem_cons_zero, List.getElem_cons_succ]
    refine h_yes (i := 5) (.bool false) rfl (by kernel_rfl) (by kernel_rfl) (by kernel_rfl) (fun _ _ _ h => h) S1 (by kernel_rfl) ?_ ?_
    · intro W hW; go_simp
    try simp only [Act.put, List.setIfInBounds_toArray, List.set_cons_zero, List.set_cons_succ, List.getElem_toArray, List.getElem_cons_zero, List.getElem_cons_succ]
    refine h_yes (i := 6) (.bool false) rfl (by kernel_rfl) (by kernel_rfl) (by kernel_rfl) (fun _ _ _ h => h) S1 (by kernel_rfl) ?_ ?_
    · intro W hW; go_simp
    try simp only [Act.put, List.setIfInBounds_toArray, List.set_cons_zero, List.set_cons_succ, List.getElem_toArray, List.getElem_cons_zero, List.getElem_cons_succ]
    refine h_yes (i := 7) (.int .i64 a) rfl (by kernel_rfl) (by kernel_rfl) (by kernel_rfl) (fun _ _ _ h => h) S1 (by kernel_rfl) ?_ ?_
    · intro W hW; go_simp
    try simp only [Act.put, List.setIfInBounds_toArray, List.set_cons_zero, List.set_cons_succ, List.getElem_toArray, List.getElem_cons_zero, List.getElem_cons_succ]
    refine h_yes (i := 8) (.int .i64 cut) rfl (by kernel_rfl) (by kernel_rfl) (by kernel_rfl) (fun _ _ _ h => h) S1 (by kernel_rfl) ?_ ?_
    · intro W hW; go_simp
    try simp only [Act.put, List.setIfInBounds_toArray, List.set_cons_zero, List.set_cons_succ, List.getElem_toArray, List.getElem_cons_zero, List.getElem_cons_succ]
    refine h_yes (i := 9) (.bool false) rfl (by kernel_rfl) (by kernel_rfl) (by kernel_rfl) (fun _ _ _ h => h) S1 (by kernel_rfl) ?_ ?_
    · intro W hW; go_simp
    try simp only [Act.put, List.setIfInBounds_toArray, List.set_cons_zero, List.set_cons_succ, List.getElem_toArray, List.getElem_cons_zero, List.getElem_cons_succ]
    refine h_yes (i := 10) (.bool false) rfl (by kernel_rfl) (by kernel_rfl) (by kernel_rfl) (fun _ _ _ h => h) S1 (by kernel_rfl) ?_ ?_
    · intro W hW; go_simp
    try simp only [Act.put, List.setIfInBounds_toArray, List.set_cons_zero, List.set_cons_succ, List.getElem_toArray, List.getElem_cons_zero, List.getElem_cons_succ]
    refine h_yes (i := 11) (.bool false) rfl (by kernel_rfl) (by kernel_rfl) (by kernel_rfl) (fun _ _ _ h => h) S1 (by kernel_rfl) ?_ ?_
    · intro W hW; go_simp
    try simp only [Act.put, List.setIfInBounds_toArray, List.set_cons_zero, List.set_cons_succ, List.getElem_toArray, List.getElem_cons_zero, List.getElem_cons_succ]
    refine h_yes (i := 12) (.pointer (some ⟨gr, 0, none⟩)) rfl (by kernel_rfl) (by kernel_rfl) (by kernel_rfl) (fun _ _ _ h => h) S1 (by kernel_rfl) ?_ ?_
    · intro W hW; go_simp
    try simp only [Act.put, List.setIfInBounds_toArray, List.set_cons_zero, List.set_cons_succ, List.getElem_toArray, List.getElem_cons_zero, List.getElem_cons_succ]
    refine h_yes (i := 15) (.slice A2 M.length c2) rfl (by kernel_rfl) (by kernel_rfl) (by kernel_rfl) (fun _ _ _ h => h) S1 (by kernel_rfl) ?_ ?_
    · intro W hW; go_simp
    try simp only [Act.put, List.setIfInBounds_toArray, List.set_cons_zero, List.set_cons_succ, List.getElem_toArray, List.getElem_cons_zero, List.getElem_cons_succ]
    refine h_yes (i := 16) (.int .i64 a) rfl (by kernel_rfl) (by kernel_rfl) (by kernel_rfl) (fun _ _ _ h => h) S1 (by kernel_rfl) ?_ ?_
    · intro W hW; go_simp
    try simp only [Act.put, List.setIfInBounds_toArray, List.set_cons_zero, List.set_cons_succ, List.getElem_toArray, List.getElem_cons_zero, List.getElem_cons_succ]
    refine h_yes (i := 17) (.slice A2 a c2) rfl (by kernel_rfl) (by kernel_rfl) (by kernel_rfl) (fun _ _ _ h => h) S1 (by kernel_rfl) ?_ ?_
    · intro W hW; go_simp
    try simp only [Act.put, List.setIfInBounds_toArray, List.set_cons_zero, List.set_cons_succ, List.getElem_toArray, List.getElem_cons_zero, List.getElem_cons_succ]
    refine h_yes (i := 18) (.string ⟨MA.toArray⟩) rfl (by kernel_rfl) (by kernel_rfl) (by kernel_rfl) (fun _ _ _ h => h) S1 (by kernel_rfl) ?_ ?_
    · intro W hW; have hk := str_at (c := c2) (lie_cut (LM3.out.on hW) hMA.out) hta'.out; go_simp
    try simp only [Act.put, List.setIfInBounds_toArray, List.set_cons_zero, List.set_cons_succ, List.getElem_toArray, List.getElem_cons_zero, List.getElem_cons_succ]
    refine h_call (i := 13) rfl (by kernel_rfl) (by kernel_rfl) ?_
    try simp only [List.getElem_toArray, List.getElem_cons_zero, List.getElem_cons_succ]
    go_simp
    go_at_call 23
    refine Calls.mono (HBq'.out gr _ K3.out) ?_
    rintro e w5 ⟨A5, c5, rfl, o5, b5⟩
    have LM5 := hide (LM3.out.on b5)
    have J5 := hide (J3.out.below b5)
    have K5 := hide (K3.out.below b5)
    have B5 := hide (chain B3.out b5)
    have L2 := Lie.of_own o5
    have k2 := hide (fun W (hb : Below w5.heap.size w5 W) => str_at (c := c5) (L2.on hb) rfl)
    refine ⟨b5, h_mono (S' := fun W => Below w5.heap.size w5 W) (fun W hW => chain b5 hW) _ _ _ _ ?_⟩
    try simp only [Act.put, List.setIfInBounds_toArray, List.set_cons_zero, List.set_cons_succ, List.getElem_toArray, List.getElem_cons_zero, List.getElem_cons_succ]
    refine h_yes (i := 14) (.string ⟨MA.toArray⟩) rfl (by kernel_rfl) (by kernel_rfl) (by kernel_rfl) (fun _ _ _ h => h) (Below.refl _ _) (by kernel_rfl) ?_ ?_
    · intro W hW; have hk := k2.out W hW; go_simp
    try simp only [Act.put, List.setIfInBounds_toArray, List.set_cons_zero, List.set_cons_succ, List.getElem_toArray, List.getElem_cons_zero, List.getElem_cons_succ]
    refine h_yes (i := 19) (.bool false) rfl (by kernel_rfl) (by kernel_rfl) (by kernel_rfl) (fun _ _ _ h => h) (Below.refl _ _) (by kernel_rfl) ?_ ?_
    · intro W hW; go_simp
    try simp only [Act.put, List.setIfInBounds_toArray, List.set_cons_zero, List.set_cons_succ, List.getElem_toArray, List.getElem_cons_zero, List.getElem_cons_succ]
    refine h_yes (i := 20) (.bool false) rfl (by kernel_rfl) (by kernel_rfl) (by kernel_rfl) (fun _ _ _ h => h) (Below.refl _ _) (by kernel_rfl) ?_ ?_
    · intro W hW; go_simp
    try simp only [Act.put, List.setIfInBounds_toArray, List.set_cons_zero, List.set_cons_succ, List.getElem_toArray, List.getElem_cons_zero, List.getElem_cons_succ]
    refine h_yes (i := 21) (.bool false) rfl (by kernel_rfl) (by kernel_rfl) (by kernel_rfl) (fun _ _ _ h => h) (Below.refl _ _) (by kernel_rfl) ?_ ?_
    · intro W hW; go_simp
    try simp only [Act.put, List.setIfInBounds_toArray, List.set_cons_zero, List.set_cons_succ, List.getElem_toArray, List.getElem_cons_zero, List.getElem_cons_succ]
    refine h_yes (i := 22) (.int .i64 er) rfl (by kernel_rfl) (by kernel_rfl) (by kernel_rfl) (fun _ _ _ h => h) (Below.refl _ _) (by kernel_rfl) ?_ ?_
    · intro W hW; go_simp
    try simp only [Act.put, List.setIfInBounds_toArray, List.set_cons_zero, List.set_cons_succ, List.getElem_toArray, List.getElem_cons_zero, List.getElem_cons_succ]
    refine h_yes (i := 23) (.bool true) rfl (by kernel_rfl) (by kernel_rfl) (by kernel_rfl) (fun _ _ _ h => h) (Below.refl _ _) (by kernel_rfl) ?_ ?_
    · intro W hW; go_simp
    try simp only [Act.put, List.setIfInBounds_toArray, List.set_cons_zero, List.set_cons_succ, List.getElem_toArray, List.getElem_cons_zero, List.getElem_cons_succ]
    refine h_yes (i := 24) (.int .i64 a) rfl (by kernel_rfl) (by kernel_rfl) (by kernel_rfl) (fun _ _ _ h => h) (Below.refl _ _) (by kernel_rfl) ?_ ?_
    · intro W hW; go_simp
    try simp only [Act.put, List.setIfInBounds_toArray, List.set_cons_zero, List.set_cons_succ, List.getElem_toArray, List.getElem_cons_zero, List.getElem_cons_succ]
    refine h_yes (i := 25) (.int .i64 cut) rfl (by kernel_rfl) (by kernel_rfl) (by kernel_rfl) (fun _ _ _ h => h) (Below.refl _ _) (by kernel_rfl) ?_ ?_
    · intro W hW; go_simp
    try simp only [Act.put, List.setIfInBounds_toArray, List.set_cons_zero, List.set_cons_succ, List.getElem_toArray, List.getElem_cons_zero, List.getElem_cons_succ]
    refine h_yes (i := 26) (.bool true) rfl (by kernel_rfl) (by kernel_rfl) (by kernel_rfl) (fun _ _ _ h => h) (Below.refl _ _) (by kernel_rfl) ?_ ?_
    · intro W hW; go_simp
    try simp only [Act.put, List.setIfInBounds_toArray, List.set_cons_zero, List.set_cons_succ, List.getElem_toArray, List.getElem_cons_zero, List.getElem_cons_succ]
    refine h_yes (i := 27) (.bool false) rfl (by kernel_rfl) (by kernel_rfl) (by kernel_rfl) (fun _ _ _ h => h) (Below.refl _ _) (by kernel_rfl) ?_ ?_
    · intro W hW; go_simp
    try simp only [Act.put, List.setIfInBounds_toArray, List.set_cons_zero, List.set_cons_succ, List.getElem_toArray, List.getElem_cons_zero, List.getElem_cons_succ]
    refine h_yes (i := 28) (.bool false) rfl (by kernel_rfl) (by kernel_rfl) (by kernel_rfl) (fun _ _ _ h => h) (Below.refl _ _) (by kernel_rfl) ?_ ?_
    · intro W hW; go_simp
    try simp only [Act.put, List.setIfInBounds_toArray, List.set_cons_zero, List.set_cons_succ, List.getElem_toArray, List.getElem_cons_zero, List.getElem_cons_succ]
    refine h_yes (i := 29) (.bool false) rfl (by kernel_rfl) (by kernel_rfl) (by kernel_rfl) (fun _ _ _ h => h) (Below.refl _ _) (by kernel_rfl) ?_ ?_
    · intro W hW; go_simp
    try simp only [Act.put, List.setIfInBounds_toArray, List.set_cons_zero, List.set_cons_succ, List.getElem_toArray, List.getElem_cons_zero, List.getElem_cons_succ]
    refine h_yes (i := 30) (.int .i64 er) rfl (by kernel_rfl) (by kernel_rfl) (by kernel_rfl) (fun _ _ _ h => h) (Below.refl _ _) (by kernel_rfl) ?_ ?_
    · intro W hW; go_simp
    try simp only [Act.put, List.setIfInBounds_toArray, List.set_cons_zero, List.set_cons_succ, List.getElem_toArray, List.getElem_cons_zero, List.getElem_cons_succ]
    refine h_yes (i := 31) (.bool false) rfl (by kernel_rfl) (by kernel_rfl) (by kernel_rfl) (fun _ _ _ h => h) (Below.refl _ _) (by kernel_rfl) ?_ ?_
    · intro W hW; go_simp
    try simp only [Act.put, List.setIfInBounds_toArray, List.set_cons_zero, List.set_cons_succ, List.getElem_toArray, List.getElem_cons_zero, List.getElem_cons_succ]
    refine h_yes (i := 32) (.bool false) rfl (by kernel_rfl) (by kernel_rfl) (by kernel_rfl) (fun _ _ _ h => h) (Below.refl _ _) (by kernel_rfl) ?_ ?_
    · intro W hW; go_simp
    try simp only [Act.put, List.setIfInBounds_toArray, List.set_cons_zero, List.set_cons_succ, List.getElem_toArray, List.getElem_cons_zero, List.getElem_cons_succ]
    refine h_no (i := 33) rfl (by kernel_rfl) (by kernel_rfl) (by kernel_rfl) (fun _ _ _ h => h) (Below.refl _ _) (by kernel_rfl) ?_
    try simp only [Act.put, List.setIfInBounds_toArray, List.set_cons_zero, List.set_cons_succ, List.getElem_toArray, List.getElem_cons_zero, List.getElem_cons_succ]
    refine h_no (i := 34) rfl (by kernel_rfl) (by kernel_rfl) (by kernel_rfl) (fun _ _ _ h => h) (Below.refl _ _) (by kernel_rfl) ?_
    try simp only [Act.put, List.setIfInBounds_toArray, List.set_cons_zero, List.set_cons_succ, List.getElem_toArray, List.getElem_cons_zero, List.getElem_cons_succ]
    refine h_yes (i := 35) (.bool false) rfl (by kernel_rfl) (by kernel_rfl) (by kernel_rfl) (fun _ _ _ h => h) (Below.refl _ _) (by kernel_rfl) ?_ ?_
    · intro W hW; go_simp
    try simp only [Act.put, List.setIfInBounds_toArray, List.set_cons_zero, List.set_cons_succ, List.getElem_toArray, List.getElem_cons_zero, List.getElem_cons_succ]
    refine h_yes (i := 36) (.bool false) rfl (by kernel_rfl) (by kernel_rfl) (by kernel_rfl) (fun _ _ _ h => h) (Below.refl _ _) (by kernel_rfl) ?_ ?_
    · intro W hW; go_simp
    try simp only [Act.put, List.setIfInBounds_toArray, List.set_cons_zero, List.set_cons_succ, List.getElem_toArray, List.getElem_cons_zero, List.getElem_cons_succ]
    refine wpAnyH_done (by kernel_rfl) ?_ _
    clear o5 b5 S1 L2 k2
    go_upto_region 12 with fail
    go_wp2_with fail
    refine Calls.mono (entries_any g p _ J5.out (by omega)) ?_
    rintro e w6 ⟨A6, c6, rfl, o6, b6⟩
    have hc6 := own_le' o6
    have L6 := hide (Lie.of_own o6)
    have K6 := hide (K5.out.below b6)
    have LM6 := hide (LM5.out.on b6)
    have B6 := hide (chain B5.out b6)
    clear o6 b6 J5 K5 LM5 B5
    go_wp2_with fail
    refine Calls.mono (len_any gr q _ K6.out) ?_
    rw [ql.out]
    rintro e w7 ⟨rfl, rfl⟩
    go_wp2_with fail
    refine Calls.mono (entries_any gr q _ K6.out (by rw [ql.out]; omega)) ?_
    unfold GivesE
    rw [ql.out]
    rintro e w7 ⟨A7, c7, rfl, o7, b7⟩
    have L7 := hide (Lie.of_own o7)
    have L7' := hide (L6.out.on b7)
    have K7 := hide (K6.out.below b7)
    have B7 := hide (chain B6.out b7)
    clear o7 b7 L6 K6 B6
    go_wp2_with fail
    refine Calls.mono (len_any gr q _ K7.out) ?_
    rw [ql.out]
    rintro e w8 ⟨rfl, rfl⟩
    have LQ := lie_flat_take L7'.out m
    rw [hq.out] at LQ
    have LQ := hide LQ
    have s1 : (m : Int) ≤ (c6 : Int) := by omega
    go_wp2_with fail
    refine Calls.mono (jsame_any A7 A6 m m c7 _ q _ ql.out.symm ql.out.symm (by rw [ql.out]; omega) L7.out LQ.out) ?_
    rintro e w8 ⟨rfl, b8⟩
    have L8 := hide (L7'.out.on b8)
    have K8 := hide (K7.out.below b8)
    have B8 := hide (chain B7.out b8)
    clear b8 L7 L7' K7 B7 LQ
    go_wp2_with fail
    refine Calls.mono (len_any gr q _ K8.out) ?_
    rw [ql.out]
    rintro e w9 ⟨rfl, rfl⟩
    by_cases hmp : m = p.length
    · have heq : ((m : Int) == (p.length : Int)) = true := by simp; omega
      have haM := hend.out hmp
      have heq2 : ((a : Int) == (M.length : Int)) = true := by simp; omega
      clear hmp haM
      go_wp2_with fail
      refine Calls.mono (example52_any _) ?_
      rintro e w10 ⟨rfl, b10⟩
      go_wp2_with fail
      go_ret
      exact ⟨rfl, chain B8.out b10⟩
    · have hlt : m < p.length := by omega
      have heq : ((m : Int) == (p.length : Int)) = false := by simp; omega
      have hmore := hide (hmor.out hlt)
      clear hmp
      go_wp2_with fail
      refine Calls.mono (len_any gr q _ K8.out) ?_
      rw [ql.out]
      rintro e w9 ⟨rfl, rfl⟩
      have s2 : (m : Int) + 1 ≤ (c6 : Int) := by omega
      have s3 : (0 : Int) ≤ (m : Int) + 1 := by omega
      have s4 : ((m : Int) + 1).toNat = m + 1 := by omega
      have hq1 := hide (show (p.take (m + 1)).length = m + 1 from List.length_take_of_le (by omega))
      have HM2 := made_any A6 (m + 1) c6 (p.take (m + 1)) w8 hq1.out.symm (by rw [hq1.out]; omega) (lie_flat_take L8.out (m + 1))
      obtain ⟨m1, m2, m3⟩ := hmore.out
      rw [m1] at HM2
      have HM2' := hide HM2
      have m2 := hide m2
      clear m1 HM2 hmore
      go_wp2_with fail
      refine Calls.mono HM2'.out ?_
      rintro e w10 ⟨gm, Rm, rfl, jm, b10, -, -⟩
      have JM := hide jm.read
      have B10 := hide (chain B8.out b10)
      clear jm b10 HM2' B8 K8 L8
      go_wp2_with fail
      refine Calls.mono (jbytes_any gm (p.take (m + 1)) _ JM.out m2.out (by rw [hq1.out]; omega)) ?_
      generalize Jou.encJ (p.take (m + 1)) = M1 at m3
      rintro e w11 ⟨A11, c11, rfl, o11, b11⟩
      have B11 := hide (chain B10.out b11)
      have m4 : (cut : Int) < (M1.length : Int) := by omega
      clear o11 b11 JM B10
      go_wp2_with fail
      refine Calls.mono (example52_any _) ?_
      rintro e w12 ⟨rfl, b12⟩
      go_wp2_with fail
      go_ret
      exact ⟨rfl, chain B11.out b12⟩
  · have f0 : ((er : Int) == 0) = false := by simp; omega
    have f1 : ((a : Int) == (cut : Int)) = false := by simp; omega
    have f2 : ((er : Int) != 0) = true := by simp; omega
    have f3 : ((er : Int) != 4) = false := by simp; omega
    clear r8 e0
    refine wp_region_held (S := fun W => Below w3.drew.heap.size w3.drew W) (by kernel_rfl) ?_
    (change wpAnyH _ _ _ _ _ _ _ _ (World.drew w3))
    have S1 := Below.refl w3.drew.heap.size w3.drew
    refine h_yes (i := 0) (.pointer (some ⟨gr, 0, none⟩)) rfl (by kernel_rfl) (by kernel_rfl) (by kernel_rfl) (fun _ _ _ h => h) S1 (by kernel_rfl) ?_ ?_
    · intro W hW; go_simp
    try simp only [Act.put, List.setIfInBounds_toArray, List.set_cons_zero, List.set_cons_succ, List.getElem_toArray, List.getElem_cons_zero]
    refine h_yes (i := 1) (.bool false) rfl (by kernel_rfl) (by kernel_rfl) (by kernel_rfl) (fun _ _ _ h => h) S1 (by kernel_rfl) ?_ ?_
    · intro W hW; go_simp
    try simp only [Act.put, List.setIfInBounds_toArray, List.set_cons_zero, List.set_cons_succ, List.getElem_toArray, List.getElem_cons_zero, List.getElem_cons_succ]
    refine h_yes (i := 2) (.bool false) rfl (by kernel_rfl) (by kernel_rfl) (by kernel_rfl) (fun _ _ _ h => h) S1 (by kernel_rfl) ?_ ?_
    · intro W hW; go_simp
    try simp only [Act.put, List.setIfInBounds_toArray, List.set_cons_zero, List.set_cons_succ, List.getElem_toArray, List.getElem_cons_zero, List.getElem_cons_succ]
    refine h_yes (i := 3) (.int .i64 a) rfl (by kernel_rfl) (by kernel_rfl) (by kernel_rfl) (fun _ _ _ h => h) S1 (by kernel_rfl) ?_ ?_
    · intro W hW; go_simp
    try simp only [Act.put, List.setIfInBounds_toArray, List.set_cons_zero, List.set_cons_succ, List.getElem_toArray, List.getElem_cons_zero, List.getElem_cons_succ]
    refine h_yes (i := 4) (.bool false) rfl (by kernel_rfl) (by kernel_rfl) (by kernel_rfl) (fun _ _ _ h => h) S1 (by kernel_rfl) ?_ ?_
    · intro W hW; go_simp
    try simp only [Act.put, List.setIfInBounds_toArray, List.set_cons_zero, List.set_cons_succ, List.getElem_toArray, List.getElem_cons_zero, List.getElem_cons_succ]
    refine h_yes (i := 5) (.bool false) rfl (by kernel_rfl) (by kernel_rfl) (by kernel_rfl) (fun _ _ _ h => h) S1 (by kernel_rfl) ?_ ?_
    · intro W hW; go_simp
    try simp only [Act.put, List.setIfInBounds_toArray, List.set_cons_zero, List.set_cons_succ, List.getElem_toArray, List.getElem_cons_zero, List.getElem_cons_succ]
    refine h_yes (i := 6) (.bool false) rfl (by kernel_rfl) (by kernel_rfl) (by kernel_rfl) (fun _ _ _ h => h) S1 (by kernel_rfl) ?_ ?_
    · intro W hW; go_simp
    try simp only [Act.put, List.setIfInBounds_toArray, List.set_cons_zero, List.set_cons_succ, List.getElem_toArray, List.getElem_cons_zero, List.getElem_cons_succ]
    refine h_yes (i := 7) (.int .i64 a) rfl (by kernel_rfl) (by kernel_rfl) (by kernel_rfl) (fun _ _ _ h => h) S1 (by kernel_rfl) ?_ ?_
    · intro W hW; go_simp
    try simp only [Act.put, List.setIfInBounds_toArray, List.set_cons_zero, List.set_cons_succ, List.getElem_toArray, List.getElem_cons_zero, List.getElem_cons_succ]
    refine h_yes (i := 8) (.int .i64 cut) rfl (by kernel_rfl) (by kernel_rfl) (by kernel_rfl) (fun _ _ _ h => h) S1 (by kernel_rfl) ?_ ?_
    · intro W hW; go_simp
    try simp only [Act.put, List.setIfInBounds_toArray, List.set_cons_zero, List.set_cons_succ, List.getElem_toArray, List.getElem_cons_zero, List.getElem_cons_succ]
    refine h_yes (i := 9) (.bool false) rfl (by kernel_rfl) (by kernel_rfl) (by kernel_rfl) (fun _ _ _ h => h) S1 (by kernel_rfl) ?_ ?_
    · intro W hW; go_simp
    try simp only [Act.put, List.setIfInBounds_toArray, List.set_cons_zero, List.set_cons_succ, List.getElem_toArray, List.getElem_cons_zero, List.getElem_cons_succ]
    refine h_yes (i := 10) (.bool false) rfl (by kernel_rfl) (by kernel_rfl) (by kernel_rfl) (fun _ _ _ h => h) S1 (by kernel_rfl) ?_ ?_
    · intro W hW; go_simp
    try simp only [Act.put, List.setIfInBounds_toArray, List.set_cons_zero, List.set_cons_succ, List.getElem_toArray, List.getElem_cons_zero, List.getElem_cons_succ]
    refine h_yes (i := 11) (.bool false) rfl (by kernel_rfl) (by kernel_rfl) (by kernel_rfl) (fun _ _ _ h => h) S1 (by kernel_rfl) ?_ ?_
    · intro W hW; go_simp
    try simp only [Act.put, List.setIfInBounds_toArray, List.set_cons_zero, List.set_cons_succ, List.getElem_toArray, List.getElem_cons_zero, List.getElem_cons_succ]
    refine h_yes (i := 12) (.pointer (some ⟨gr, 0, none⟩)) rfl (by kernel_rfl) (by kernel_rfl) (by kernel_rfl) (fun _ _ _ h => h) S1 (by kernel_rfl) ?_ ?_
    · intro W hW; go_simp
    try simp only [Act.put, List.setIfInBounds_toArray, List.set_cons_zero, List.set_cons_succ, List.getElem_toArray, List.getElem_cons_zero, List.getElem_cons_succ]
    refine h_yes (i := 15) (.slice A2 M.length c2) rfl (by kernel_rfl) (by kernel_rfl) (by kernel_rfl) (fun _ _ _ h => h) S1 (by kernel_rfl) ?_ ?_
    · intro W hW; go_simp
    try simp only [Act.put, List.setIfInBounds_toArray, List.set_cons_zero, List.set_cons_succ, List.getElem_toArray, List.getElem_cons_zero, List.getElem_cons_succ]
    refine h_yes (i := 16) (.int .i64 a) rfl (by kernel_rfl) (by kernel_rfl) (by kernel_rfl) (fun _ _ _ h => h) S1 (by kernel_rfl) ?_ ?_
    · intro W hW; go_simp
    try simp only [Act.put, List.setIfInBounds_toArray, List.set_cons_zero, List.set_cons_succ, List.getElem_toArray, List.getElem_cons_zero, List.getElem_cons_succ]
    refine h_yes (i := 17) (.slice A2 a c2) rfl (by kernel_rfl) (by kernel_rfl) (by kernel_rfl) (fun _ _ _ h => h) S1 (by kernel_rfl) ?_ ?_
    · intro W hW; go_simp
    try simp only [Act.put, List.setIfInBounds_toArray, List.set_cons_zero, List.set_cons_succ, List.getElem_toArray, List.getElem_cons_zero, List.getElem_cons_succ]
    refine h_yes (i := 18) (.string ⟨MA.toArray⟩) rfl (by kernel_rfl) (by kernel_rfl) (by kernel_rfl) (fun _ _ _ h => h) S1 (by kernel_rfl) ?_ ?_
    · intro W hW; have hk := str_at (c := c2) (lie_cut (LM3.out.on hW) hMA.out) hta'.out; go_simp
    try simp only [Act.put, List.setIfInBounds_toArray, List.set_cons_zero, List.set_cons_succ, List.getElem_toArray, List.getElem_cons_zero, List.getElem_cons_succ]
    refine h_call (i := 13) rfl (by kernel_rfl) (by kernel_rfl) ?_
    try simp only [List.getElem_toArray, List.getElem_cons_zero, List.getElem_cons_succ]
    go_simp
    go_at_call 23
    refine Calls.mono (HBq'.out gr _ K3.out) ?_
    rintro e w5 ⟨A5, c5, rfl, o5, b5⟩
    have LM5 := hide (LM3.out.on b5)
    have J5 := hide (J3.out.below b5)
    have K5 := hide (K3.out.below b5)
    have B5 := hide (chain B3.out b5)
    have L2 := Lie.of_own o5
    have k2 := hide (fun W (hb : Below w5.heap.size w5 W) => str_at (c := c5) (L2.on hb) rfl)
    refine ⟨b5, h_mono (S' := fun W => Below w5.heap.size w5 W) (fun W hW => chain b5 hW) _ _ _ _ ?_⟩
    try simp only [Act.put, List.setIfInBounds_toArray, List.set_cons_zero, List.set_cons_succ, List.getElem_toArray, List.getElem_cons_zero, List.getElem_cons_succ]
    refine h_yes (i := 14) (.string ⟨MA.toArray⟩) rfl (by kernel_rfl) (by kernel_rfl) (by kernel_rfl) (fun _ _ _ h => h) (Below.refl _ _) (by kernel_rfl) ?_ ?_
    · intro W hW; have hk := k2.out W hW; go_simp
    try simp only [Act.put, List.setIfInBounds_toArray, List.set_cons_zero, List.set_cons_succ, List.getElem_toArray, List.getElem_cons_zero, List.getElem_cons_succ]
    refine h_yes (i := 19) (.bool false) rfl (by kernel_rfl) (by kernel_rfl) (by kernel_rfl) (fun _ _ _ h => h) (Below.refl _ _) (by kernel_rfl) ?_ ?_
    · intro W hW; go_simp
    try simp only [Act.put, List.setIfInBounds_toArray, List.set_cons_zero, List.set_cons_succ, List.getElem_toArray, List.getElem_cons_zero, List.getElem_cons_succ]
    refine h_yes (i := 20) (.bool false) rfl (by kernel_rfl) (by kernel_rfl) (by kernel_rfl) (fun _ _ _ h => h) (Below.refl _ _) (by kernel_rfl) ?_ ?_
    · intro W hW; go_simp
    try simp only [Act.put, List.setIfInBounds_toArray, List.set_cons_zero, List.set_cons_succ, List.getElem_toArray, List.getElem_cons_zero, List.getElem_cons_succ]
    refine h_yes (i := 21) (.bool false) rfl (by kernel_rfl) (by kernel_rfl) (by kernel_rfl) (fun _ _ _ h => h) (Below.refl _ _) (by kernel_rfl) ?_ ?_
    · intro W hW; go_simp
    try simp only [Act.put, List.setIfInBounds_toArray, List.set_cons_zero, List.set_cons_succ, List.getElem_toArray, List.getElem_cons_zero, List.getElem_cons_succ]
    refine h_yes (i := 22) (.int .i64 er) rfl (by kernel_rfl) (by kernel_rfl) (by kernel_rfl) (fun _ _ _ h => h) (Below.refl _ _) (by kernel_rfl) ?_ ?_
    · intro W hW; go_simp
    try simp only [Act.put, List.setIfInBounds_toArray, List.set_cons_zero, List.set_cons_succ, List.getElem_toArray, List.getElem_cons_zero, List.getElem_cons_succ]
    refine h_yes (i := 23) (.bool false) rfl (by kernel_rfl) (by kernel_rfl) (by kernel_rfl) (fun _ _ _ h => h) (Below.refl _ _) (by kernel_rfl) ?_ ?_
    · intro W hW; go_simp
    try simp only [Act.put, List.setIfInBounds_toArray, List.set_cons_zero, List.set_cons_succ, List.getElem_toArray, List.getElem_cons_zero, List.getElem_cons_succ]
    refine h_yes (i := 24) (.int .i64 a) rfl (by kernel_rfl) (by kernel_rfl) (by kernel_rfl) (fun _ _ _ h => h) (Below.refl _ _) (by kernel_rfl) ?_ ?_
    · intro W hW; go_simp
    try simp only [Act.put, List.setIfInBounds_toArray, List.set_cons_zero, List.set_cons_succ, List.getElem_toArray, List.getElem_cons_zero, List.getElem_cons_succ]
    refine h_yes (i := 25) (.int .i64 cut) rfl (by kernel_rfl) (by kernel_rfl) (by kernel_rfl) (fun _ _ _ h => h) (Below.refl _ _) (by kernel_rfl) ?_ ?_
    · intro W hW; go_simp
    try simp only [Act.put, List.setIfInBounds_toArray, List.set_cons_zero, List.set_cons_succ, List.getElem_toArray, List.getElem_cons_zero, List.getElem_cons_succ]
    refine h_yes (i := 26) (.bool false) rfl (by kernel_rfl) (by kernel_rfl) (by kernel_rfl) (fun _ _ _ h => h) (Below.refl _ _) (by kernel_rfl) ?_ ?_
    · intro W hW; go_simp
    try simp only [Act.put, List.setIfInBounds_toArray, List.set_cons_zero, List.set_cons_succ, List.getElem_toArray, List.getElem_cons_zero, List.getElem_cons_succ]
    refine h_yes (i := 27) (.bool false) rfl (by kernel_rfl) (by kernel_rfl) (by kernel_rfl) (fun _ _ _ h => h) (Below.refl _ _) (by kernel_rfl) ?_ ?_
    · intro W hW; go_simp
    try simp only [Act.put, List.setIfInBounds_toArray, List.set_cons_zero, List.set_cons_succ, List.getElem_toArray, List.getElem_cons_zero, List.getElem_cons_succ]
    refine h_yes (i := 28) (.bool false) rfl (by kernel_rfl) (by kernel_rfl) (by kernel_rfl) (fun _ _ _ h => h) (Below.refl _ _) (by kernel_rfl) ?_ ?_
    · intro W hW; go_simp
    try simp only [Act.put, List.setIfInBounds_toArray, List.set_cons_zero, List.set_cons_succ, List.getElem_toArray, List.getElem_cons_zero, List.getElem_cons_succ]
    refine h_yes (i := 29) (.bool false) rfl (by kernel_rfl) (by kernel_rfl) (by kernel_rfl) (fun _ _ _ h => h) (Below.refl _ _) (by kernel_rfl) ?_ ?_
    · intro W hW; go_simp
    try simp only [Act.put, List.setIfInBounds_toArray, List.set_cons_zero, List.set_cons_succ, List.getElem_toArray, List.getElem_cons_zero, List.getElem_cons_succ]
    refine h_yes (i := 30) (.int .i64 er) rfl (by kernel_rfl) (by kernel_rfl) (by kernel_rfl) (fun _ _ _ h => h) (Below.refl _ _) (by kernel_rfl) ?_ ?_
    · intro W hW; go_simp
    try simp only [Act.put, List.setIfInBounds_toArray, List.set_cons_zero, List.set_cons_succ, List.getElem_toArray, List.getElem_cons_zero, List.getElem_cons_succ]
    refine h_yes (i := 31) (.bool true) rfl (by kernel_rfl) (by kernel_rfl) (by kernel_rfl) (fun _ _ _ h => h) (Below.refl _ _) (by kernel_rfl) ?_ ?_
    · intro W hW; go_simp
    try simp only [Act.put, List.setIfInBounds_toArray, List.set_cons_zero, List.set_cons_succ, List.getElem_toArray, List.getElem_cons_zero, List.getElem_cons_succ]
    refine h_yes (i := 32) (.bool true) rfl (by kernel_rfl) (by kernel_rfl) (by kernel_rfl) (fun _ _ _ h => h) (Below.refl _ _) (by kernel_rfl) ?_ ?_
    · intro W hW; go_simp
    try simp only [Act.put, List.setIfInBounds_toArray, List.set_cons_zero, List.set_cons_succ, List.getElem_toArray, List.getElem_cons_zero, List.getElem_cons_succ]
    refine h_yes (i := 33) (.int .i64 er) rfl (by kernel_rfl) (by kernel_rfl) (by kernel_rfl) (fun _ _ _ h => h) (Below.refl _ _) (by kernel_rfl) ?_ ?_
    · intro W hW; go_simp
    try simp only [Act.put, List.setIfInBounds_toArray, List.set_cons_zero, List.set_cons_succ, List.getElem_toArray, List.getElem_cons_zero, List.getElem_cons_succ]
    refine h_yes (i := 34) (.bool false) rfl (by kernel_rfl) (by kernel_rfl) (by kernel_rfl) (fun _ _ _ h => h) (Below.refl _ _) (by kernel_rfl) ?_ ?_
    · intro W hW; go_simp
    try simp only [Act.put, List.setIfInBounds_toArray, List.set_cons_zero, List.set_cons_succ, List.getElem_toArray, List.getElem_cons_zero, List.getElem_cons_succ]
    refine h_yes (i := 35) (.bool false) rfl (by kernel_rfl) (by kernel_rfl) (by kernel_rfl) (fun _ _ _ h => h) (Below.refl _ _) (by kernel_rfl) ?_ ?_
    · intro W hW; go_simp
    try simp only [Act.put, List.setIfInBounds_toArray, List.set_cons_zero, List.set_cons_succ, List.getElem_toArray, List.getElem_cons_zero, List.getElem_cons_succ]
    refine h_yes (i := 36) (.bool false) rfl (by kernel_rfl) (by kernel_rfl) (by kernel_rfl) (fun _ _ _ h => h) (Below.refl _ _) (by kernel_rfl) ?_ ?_
    · intro W hW; go_simp
    try simp only [Act.put, List.setIfInBounds_toArray, List.set_cons_zero, List.set_cons_succ, List.getElem_toArray, List.getElem_cons_zero, List.getElem_cons_succ]
    refine wpAnyH_done (by kernel_rfl) ?_ _
    clear o5 b5 S1 L2 k2
    go_upto_region 12 with fail
    go_wp2_with fail
    refine Calls.mono (entries_any g p _ J5.out (by omega)) ?_
    rintro e w6 ⟨A6, c6, rfl, o6, b6⟩
    have hc6 := own_le' o6
    have L6 := hide (Lie.of_own o6)
    have K6 := hide (K5.out.below b6)
    have LM6 := hide (LM5.out.on b6)
    have B6 := hide (chain B5.out b6)
    clear o6 b6 J5 K5 LM5 B5
    go_wp2_with fail
    refine Calls.mono (len_any gr q _ K6.out) ?_
    rw [ql.out]
    rintro e w7 ⟨rfl, rfl⟩
    go_wp2_with fail
    refine Calls.mono (entries_any gr q _ K6.out (by rw [ql.out]; omega)) ?_
    unfold GivesE
    rw [ql.out]
    rintro e w7 ⟨A7, c7, rfl, o7, b7⟩
    have L7 := hide (Lie.of_own o7)
    have L7' := hide (L6.out.on b7)
    have K7 := hide (K6.out.below b7)
    have B7 := hide (chain B6.out b7)
    clear o7 b7 L6 K6 B6
    go_wp2_with fail
    refine Calls.mono (len_any gr q _ K7.out) ?_
    rw [ql.out]
    rintro e w8 ⟨rfl, rfl⟩
    have LQ := lie_flat_take L7'.out m
    rw [hq.out] at LQ
    have LQ := hide LQ
    have s1 : (m : Int) ≤ (c6 : Int) := by omega
    go_wp2_with fail
    refine Calls.mono (jsame_any A7 A6 m m c7 _ q _ ql.out.symm ql.out.symm (by rw [ql.out]; omega) L7.out LQ.out) ?_
    rintro e w8 ⟨rfl, b8⟩
    have L8 := hide (L7'.out.on b8)
    have K8 := hide (K7.out.below b8)
    have B8 := hide (chain B7.out b8)
    clear b8 L7 L7' K7 B7 LQ
    go_wp2_with fail
    refine Calls.mono (len_any gr q _ K8.out) ?_
    rw [ql.out]
    rintro e w9 ⟨rfl, rfl⟩
    by_cases hmp : m = p.length
    · have heq : ((m : Int) == (p.length : Int)) = true := by simp; omega
      have haM := hend.out hmp
      have heq2 : ((a : Int) == (M.length : Int)) = true := by simp; omega
      clear hmp haM
      go_wp2_with fail
      refine Calls.mono (example52_any _) ?_
      rintro e w10 ⟨rfl, b10⟩
      go_wp2_with fail
      go_ret
      exact ⟨rfl, chain B8.out b10⟩
    · have hlt : m < p.length := by omega
      have heq : ((m : Int) == (p.length : Int)) = false := by simp; omega
      have hmore := hide (hmor.out hlt)
      clear hmp
      go_wp2_with fail
      refine Calls.mono (len_any gr q _ K8.out) ?_
      rw [ql.out]
      rintro e w9 ⟨rfl, rfl⟩
      have s2 : (m : Int) + 1 ≤ (c6 : Int) := by omega
      have s3 : (0 : Int) ≤ (m : Int) + 1 := by omega
      have s4 : ((m : Int) + 1).toNat = m + 1 := by omega
      have hq1 := hide (show (p.take (m + 1)).length = m + 1 from List.length_take_of_le (by omega))
      have HM2 := made_any A6 (m + 1) c6 (p.take (m + 1)) w8 hq1.out.symm (by rw [hq1.out]; omega) (lie_flat_take L8.out (m + 1))
      obtain ⟨m1, m2, m3⟩ := hmore.out
      rw [m1] at HM2
      have HM2' := hide HM2
      have m2 := hide m2
      clear m1 HM2 hmore
      go_wp2_with fail
      refine Calls.mono HM2'.out ?_
      rintro e w10 ⟨gm, Rm, rfl, jm, b10, -, -⟩
      have JM := hide jm.read
      have B10 := hide (chain B8.out b10)
      clear jm b10 HM2' B8 K8 L8
      go_wp2_with fail
      refine Calls.mono (jbytes_any gm (p.take (m + 1)) _ JM.out m2.out (by rw [hq1.out]; omega)) ?_
      generalize Jou.encJ (p.take (m + 1)) = M1 at m3
      rintro e w11 ⟨A11, c11, rfl, o11, b11⟩
      have B11 := hide (chain B10.out b11)
      have m4 : (cut : Int) < (M1.length : Int) := by omega
      clear o11 b11 JM B10
      go_wp2_with fail
      refine Calls.mono (example52_any _) ?_
      rintro e w12 ⟨rfl, b12⟩
      go_wp2_with fail
      go_ret
      exact ⟨rfl, chain B11.out b12⟩

set_option maxRecDepth 100000 in
set_option maxHeartbeats 3200000 in
/-- cut lies outside the bytes. -/
theorem recovery_off (a0 : Option Addr) (cap0 : Nat) (l : List E) (n : Int) (w : World) (hs : smallB l = true) (hG : ∀ x ∈ l, GoodE x) (hA : Lie w w.heap.size a0 (flat l)) (hn : n < 0 ∨ ((encJ (Jou.keep [] l)).length : Int) < n) :
    Calls Try.prog 20 #[.slice a0 l.length cap0, .int .i64 n] w fun e w' => e = .returned (.bool true) ∧ Below w.heap.size w w' := by
  have HS := small_any a0 _ cap0 l w rfl hG hA
  rw [hs] at HS
  obtain ⟨h30, -⟩ := smallB_yes hs
  have hK := kept_mk hs
  have HM := made_any a0 _ cap0 l w rfl (by omega) hA
  generalize Jou.keep [] l = p at hK HM hn
  obtain ⟨p1, p2, p3, p4⟩ := hK
  have HBp := hide (fun g W (h : JR W g p) => jbytes_any g p W h p2 (by omega))
  generalize encJ p = M at HBp hn p4
  have HS' := hide HS
  have HM' := hide HM
  have hn' := hide hn
  clear hG hA hs HS HM p1 p2 hn
  go_enter Try.func20, Try.ntmps20
  go_wp2_with fail
  refine Calls.mono HS'.out ?_
  rintro e w1 ⟨rfl, rfl⟩
  go_wp2_with fail
  refine Calls.mono HM'.out ?_
  rintro e w1 ⟨g, R, rfl, j1, b1, -, -⟩
  have J1 := hide j1.read
  have B1 := hide b1
  clear j1 b1 HS' HM'
  go_wp2_with fail
  refine Calls.mono (HBp.out g _ J1.out) ?_
  rintro e w2 ⟨A2, c2, rfl, o2, b2⟩
  have B2 := hide (chain B1.out b2)
  clear o2 b2 J1 B1 HBp
  by_cases hz : n < 0
  · clear hn'
    go_wp2_with (go_at_call 21; refine (example52_any _).mono ?_; rintro e w3 ⟨rfl, hb3⟩)
    go_ret
    exact ⟨rfl, chain B2.out hb3⟩
  · have hy : (M.length : Int) < n := hn'.out.resolve_left hz
    clear hn'
    go_wp2_with (go_at_call 21; refine (example52_any _).mono ?_; rintro e w3 ⟨rfl, hb3⟩)
    go_ret
    exact ⟨rfl, chain B2.out hb3⟩

set_option maxRecDepth 100000 in
set_option maxHeartbeats 3200000 in
theorem walk_JournalRecovery (a0 : Option Addr) (len0 cap0 : Nat) (l : List E) (n : Int) (w : World) (w0 : IsEnts w a0 len0 cap0 l) (w1 : (Lit.int .i64 n).wf = true) :
    Calls Try.prog 20 #[.slice a0 len0 cap0, .int .i64 n] w fun e w' => e = .returned (.bool true) ∧ Below w.heap.size w w' := by
  obtain ⟨rfl, hcap, hm, hG, hA⟩ := w0
  by_cases hs : smallB l = true
  · by_cases h0 : n < 0
    · exact recovery_off a0 cap0 l n w hs hG hA (.inl h0)
    by_cases h1 : ((encJ (Jou.keep [] l)).length : Int) < n
    · exact recovery_off a0 cap0 l n w hs hG hA (.inr h1)
    obtain ⟨c, rfl⟩ := Int.eq_ofNat_of_zero_le (show 0 ≤ n by omega)
    exact recovery_main a0 cap0 l c w hs hG hA (by omega)
  · have HS := small_any a0 _ cap0 l w rfl hG hA
    rw [Bool.not_eq_true] at hs
    rw [hs] at HS
    have HS := hide HS
    clear hG hA hm hs w1
    go_enter Try.func20, Try.ntmps20
    go_wp2_with fail
    refine Calls.mono HS.out ?_
    rintro e w1 ⟨rfl, rfl⟩
    go_wp2_with (go_at_call 21; refine (example52_any _).mono ?_; rintro e w1 ⟨rfl, hb1⟩)
    go_ret
    exact ⟨rfl, hb1⟩
end Go.Proofs.Ytjbdfmniiiaakaa
