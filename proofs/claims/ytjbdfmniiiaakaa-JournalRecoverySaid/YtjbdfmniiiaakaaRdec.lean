/- The reference's Decode returns the entry, the index behind it and the error, for byte strings of at most 1000000 bytes and every index. -/
import Derived.Test.YtjbdfmniiiaakaaEx51
import Derived.Test.YtjbdfmniiiaakaaRef10
import Derived.Test.YtjbdfmniiiaakaaRlen
namespace Go.Proofs.Ytjbdfmniiiaakaa
set_option linter.unusedVariables false
open Go.RowKit

theorem Kp.zero {w W : World} {g : Nat} {t : TypeId} (h : Kp w g t #[.int .i64 0, .int .i64 0, .string ⟨#[]⟩] W) :
    W.cell? ⟨g, 0, none⟩ = some (.int .i64 0) ∧ W.cell? ⟨g, 1, none⟩ = some (.int .i64 0) ∧ W.cell? ⟨g, 2, none⟩ = some (.string ⟨#[]⟩) ∧ W.frozen? ⟨g, 0, none⟩ = false ∧ W.frozen? ⟨g, 1, none⟩ = false ∧ W.frozen? ⟨g, 2, none⟩ = false := zero_cells h.2
theorem refdec_out {w wa : World} (h : Below w.heap.size w wa) (u v x : Value) : Below w.heap.size w (((wa.setCell ⟨w.heap.size, 0, none⟩ u).setCell ⟨w.heap.size, 1, none⟩ v).setCell ⟨w.heap.size, 2, none⟩ x) :=
  ((h.setCell (p := ⟨w.heap.size, 0, none⟩) (Nat.le_refl _) _).setCell (p := ⟨w.heap.size, 1, none⟩) (Nat.le_refl _) _).setCell (p := ⟨w.heap.size, 2, none⟩) (Nat.le_refl _) _
theorem seal_seg (b : List UInt8) (a x : Nat) (h1 : a ≤ x) : (Ent.sealed (Bin.seg b a x) == Bin.seg b a (x + 4)) = decide (Bin.seg b x (x + 4) = Ent.tail4 (Crc.sum (Bin.seg b a x))) := by
  rw [← Bin.seg_append b a x (x + 4) h1 (by omega), Ent.sealed, Bool.eq_iff_iff]
  simp only [beq_iff_eq, decide_eq_true_eq, List.append_cancel_left_eq]
  exact eq_comm

set_option maxRecDepth 100000 in
set_option maxHeartbeats 3200000 in
theorem refdecode_bad (A : Option Addr) (cap : Nat) (l : List UInt8) (a : Int) (w : World) (hl : l.length ≤ 1000000) (hA0 : Lie w w.heap.size A (bytes l)) (he : (Bin.dU l a).e ≠ 0) :
    Calls Try.prog 46 #[.slice A l.length cap, .int .i64 a] w (GotD w (Ent.dE l a)) := by
  have hK := hide (Kp.new w 36 #[.int .i64 0, .int .i64 0, .string ⟨#[]⟩])
  have HU := hide (fun (W : World) (hb : Below w.heap.size w W) => refuint_any A _ cap l a W rfl hl (hA0.on hb))
  have hbad := hide (Ent.dE_bad1 l a he)
  clear hA0
  generalize Bin.dU l a = G at HU he hbad
  obtain ⟨v1, x1, e1⟩ := G
  simp only at HU he hbad
  have hne : ((e1 : Int) != 0) = true := by simp; omega
  clear he
  go_enter Try.func46, Try.ntmps46
  go_upto_region 1 with fail
  generalize w.alloc (.cells #[.int .i64 0, .int .i64 0, .string ⟨#[]⟩] 36) = wa at *
  obtain ⟨z0, z1, z2, f0, f1, f2⟩ := hK.out.zero
  go_wp2_with fail
  refine Calls.mono (HU.out _ hK.out.1) ?_
  rintro e w1 ⟨rfl, rfl⟩
  go_wp2_with fail
  exact bodyPost_ret (v := .tuple #[.agg #[.int .i64 0, .int .i64 0, .string ⟨#[]⟩], .int .i64 0, .int .i64 (e1 : Nat)]) (by simp [results, Try.results46, go_sem, z0, z1, z2]) rfl (gotd_no hbad.out (refdec_out hK.out.1 _ _ _))

set_option maxRecDepth 100000 in
set_option maxHeartbeats 6400000 in
theorem refdecode_in (A : Option Addr) (cap : Nat) (l : List UInt8) (a : Nat) (w : World) (hl : l.length ≤ 1000000) (ha : a ≤ l.length) (hcap : l.length ≤ cap) (hA0 : Lie w w.heap.size A (bytes l)) (he : (Bin.dU l a).e = 0) :
    Calls Try.prog 46 #[.slice A l.length cap, .int .i64 a] w (GotD w (Ent.dE l a)) := by
  have hK := hide (Kp.new w 36 #[.int .i64 0, .int .i64 0, .string ⟨#[]⟩])
  have HU := hide (fun (W : World) (hb : Below w.heap.size w W) (i : Int) => refuint_any A _ cap l i W rfl hl (hA0.on hb))
  have HB := hide (fun (W : World) (hb : Below w.heap.size w W) (i : Int) => refbytes_any A _ cap l i 65536 W rfl hl hcap ⟨by omega, by omega⟩ (hA0.on hb))
  have hA := hide hA0
  clear hA0
  go_enter Try.func46, Try.ntmps46
  go_upto_region 1 with fail
  generalize w.alloc (.cells #[.int .i64 0, .int .i64 0, .string ⟨#[]⟩] 36) = wa at *
  have H1 := HU.out wa hK.out.1 a
  generalize hg1' : Bin.dU l a = G1 at H1 he
  obtain ⟨v1, x1, e1⟩ := G1
  simp only at he
  subst he
  have hg1 := hide hg1'
  have H1 := hide H1
  clear hg1'
  go_upto_region 2 with fail
  refine Calls.mono H1.out ?_
  rintro e w1 ⟨rfl, rfl⟩
  clear H1
  have H1 := HU.out wa hK.out.1 x1
  generalize hg2' : Bin.dU l x1 = G2 at H1
  obtain ⟨v2, x2, e2⟩ := G2
  have hg2 := hide hg2'
  have H1 := hide H1
  clear hg2'
  go_upto_region 5 with fail
  refine Calls.mono H1.out ?_
  rintro e w1 ⟨rfl, rfl⟩
  clear H1
  by_cases h2 : e2 = 0
  case neg =>
    obtain ⟨z0, z1, z2, f0, f1, f2⟩ := hK.out.zero
    have hne : ((e2 : Int) != 0) = true := by simp; omega
    have hbad : Hid (Ent.dE l a = ⟨Ent.E0, 0, e2⟩) := hide (by have := Ent.dE_bad2 l a _ hg1.out rfl (by simp only; rw [hg2.out]; exact h2); simp only at this; rw [hg2.out] at this; exact this)
    clear h2
    go_wp2_with fail
    exact bodyPost_ret (v := .tuple #[.agg #[.int .i64 0, .int .i64 0, .string ⟨#[]⟩], .int .i64 0, .int .i64 (e2 : Nat)]) (by simp [results, Try.results46, go_sem, z0, z1, z2]) rfl (gotd_no hbad.out (refdec_out hK.out.1 _ _ _))
  subst h2
  have H1 := HB.out wa hK.out.1 x2
  generalize hg3' : Bin.dB l x2 65536 = G3 at H1
  obtain ⟨v3, x3, e3⟩ := G3
  unfold GotB at H1
  simp only at H1
  have hg3 := hide hg3'
  have H1 := hide H1
  clear hg3'
  go_upto_region 8 with fail
  refine Calls.mono H1.out ?_
  rintro e w3 ⟨A3, c3, rfl, o3, b3⟩
  have L3 := hide (Lie.of_own o3)
  have K3 := hide (hK.out.next b3)
  clear H1 hK b3 o3
  by_cases h3 : e3 = 0
  case neg =>
    obtain ⟨z0, z1, z2, f0, f1, f2⟩ := K3.out.zero
    have hne : ((e3 : Int) != 0) = true := by simp; omega
    have hbad : Hid (Ent.dE l a = ⟨Ent.E0, 0, e3⟩) := hide (by have := Ent.dE_bad3 l a _ _ hg1.out rfl hg2.out rfl (by simp only; rw [hg3.out]; exact h3); simp only at this; rw [hg3.out] at this; exact this)
    clear h3
    go_wp2_with fail
    exact bodyPost_ret (v := .tuple #[.agg #[.int .i64 0, .int .i64 0, .string ⟨#[]⟩], .int .i64 0, .int .i64 (e3 : Nat)]) (by simp [results, Try.results46, go_sem, z0, z1, z2]) rfl (gotd_no hbad.out (refdec_out K3.out.1 _ _ _))
  subst h3
  have hR := hide (read_mk hg1.out hg2.out hg3.out)
  clear hg1 hg2 hg3 HU HB
  have i1 := hR.out.le
  have i2 := hR.out.len
  have i3 := hR.out.k
  have i4 := hR.out.t
  go_upto_region 10 with fail
  by_cases c1 : l.length < x3 + 4
  · obtain ⟨z0, z1, z2, f0, f1, f2⟩ := K3.out.zero
    have hbad := hide (hR.out.short c1)
    clear hA hR
    go_wp2_with fail
    exact bodyPost_ret (v := .tuple #[.agg #[.int .i64 0, .int .i64 0, .string ⟨#[]⟩], .int .i64 0, .int .i64 (4 : Nat)]) (by simp [results, Try.results46, go_sem, z0, z1, z2]) rfl (gotd_no hbad.out (refdec_out K3.out.1 _ _ _))
  have c1' : x3 + 4 ≤ l.length := by omega
  obtain ⟨b, o, rfl, -, -⟩ := hA.out (by rw [bytes_len]; omega)
  have hP := Bin.seg_len l a x3 i1 i2
  have hQ := Bin.seg_len l a (x3 + 4) (by omega) c1'
  have LQ := hide (fun (W : World) (hb : Below w.heap.size w W) => lie_at (hA.out.on hb) a (x3 + 4 - a))
  have HA : Hid (∀ W : World, Below w.heap.size w W → Calls Try.prog 66 #[.slice (some ⟨b, o + a, none⟩) (x3 - a) (cap - a)] W fun e w' => ∃ B c, e = .returned (.slice B (x3 - a + 4) c) ∧
      Lie w' w'.heap.size B (bytes (Ent.sealed (Bin.seg l a x3))) ∧ Below W.heap.size W w') := hide (fun W hb => by
    have := refappend_any (some ⟨b, o + a, none⟩) (x3 - a) (cap - a) (Bin.seg l a x3) W hP.symm (by omega) (lie_at (hA.out.on hb) a (x3 - a))
    rw [hP] at this
    exact this.mono fun e w' ⟨B, c, he, ho, hb⟩ => ⟨B, c, he, Lie.of_own ho, hb⟩)
  have HS : Hid (∀ (W : World) (B : Option Addr) (c : Nat), Lie W W.heap.size B (bytes (Ent.sealed (Bin.seg l a x3))) → Below w.heap.size w W → Calls Try.prog 44 #[.slice B (x3 - a + 4) c, .slice (some ⟨b, o + a, none⟩) (x3 + 4 - a) (cap - a)] W fun e w' =>
      e = .returned (.bool (decide (Bin.seg l x3 (x3 + 4) = Ent.tail4 (Crc.sum (Bin.seg l a x3))))) ∧ W = w') := hide (fun W B c hB hb => by
    have := same_any B (some ⟨b, o + a, none⟩) (x3 - a + 4) (x3 + 4 - a) c (cap - a) (Ent.sealed (Bin.seg l a x3)) (Bin.seg l a (x3 + 4)) W (by rw [Ent.sealed_len, hP]) hQ.symm hB (LQ.out W hb)
    rw [seal_seg l a x3 i1] at this
    exact this)
  have hP := hide hP
  have hQ := hide hQ
  clear hA LQ
  have j0 : (0 : Int) ≤ (a : Int) := by omega
  have j1 : (a : Int) ≤ (x3 : Int) := by omega
  have j2 : (x3 : Int) ≤ (l.length : Int) := by omega
  have j3 : (x3 : Int) ≤ (cap : Int) := by omega
  have j4 : (a : Int) ≤ (x3 : Int) + 4 := by omega
  have j5 : (x3 : Int) + 4 ≤ (l.length : Int) := by omega
  have j6 : (x3 : Int) + 4 ≤ (cap : Int) := by omega
  have j7 : ¬ cap = a := by omega
  have j8 : a ≤ x3 := by omega
  have j9 : x3 ≤ l.length := by omega
  go_upto_region 12 with fail
  have K0 := hide K3.out.drew
  by_cases c2 : Bin.seg l x3 (x3 + 4) = Ent.tail4 (Crc.sum (Bin.seg l a x3))
  case neg =>
    have HS := hide (fun W B c h1 h2 => by have := HS.out W B c h1 h2; rw [decide_eq_false c2] at this; exact this)
    have hbad := hide (hR.out.sum c1' c2)
    clear hR c2
    have s1 : IntKind.i64.wrap ((x3 : Int) + 4) = (x3 : Int) + 4 := IntWalk.i64_in _ (by omega)
    have s2 : ((x3 : Int) + 4).toNat = x3 + 4 := by omega
    go_region_held3 (fun w' => True) (trivial)
      (first
      | (go_at_call 66; refine Calls.mono (HA.out _ (by exact K0.out.1)) ?_; rintro e w4 ⟨B4, c4, rfl, L4, b4⟩; have K4 := hide (K0.out.next b4); have T4 := hide (L3.out.drew.on b4); have L4 := hide L4; clear b4)
      | (go_at_call 44; refine Calls.mono (HS.out _ _ _ L4.out K4.out.1) ?_; rintro e w5 ⟨rfl, rfl⟩))
    clear s1 s2
    obtain ⟨z0, z1, z2, f0, f1, f2⟩ := K4.out.zero
    go_wp2_with fail
    exact bodyPost_ret (v := .tuple #[.agg #[.int .i64 0, .int .i64 0, .string ⟨#[]⟩], .int .i64 0, .int .i64 (38 : Nat)]) (by simp [results, Try.results46, go_sem, z0, z1, z2]) rfl (gotd_no hbad.out (refdec_out K4.out.1 _ _ _))
  · have HS := hide (fun W B c h1 h2 => by have := HS.out W B c h1 h2; rw [decide_eq_true c2] at this; exact this)
    have hR := hide (And.intro (fun h => hR.out.kind c1' c2 h) (And.intro (fun h => hR.out.time c1' c2 h) (fun h => hR.out.ok c1' c2 h)))
    clear c2
    have s1 : IntKind.i64.wrap ((x3 : Int) + 4) = (x3 : Int) + 4 := IntWalk.i64_in _ (by omega)
    have s2 : ((x3 : Int) + 4).toNat = x3 + 4 := by omega
    go_region_held3 (fun w' => True) (trivial)
      (first
      | (go_at_call 66; refine Calls.mono (HA.out _ (by exact K0.out.1)) ?_; rintro e w4 ⟨B4, c4, rfl, L4, b4⟩; have K4 := hide (K0.out.next b4); have T4 := hide (L3.out.drew.on b4); have L4 := hide L4; clear b4)
      | (go_at_call 44; refine Calls.mono (HS.out _ _ _ L4.out K4.out.1) ?_; rintro e w5 ⟨rfl, rfl⟩))
    clear s1 s2
    obtain ⟨z0, z1, z2, f0, f1, f2⟩ := K4.out.zero
    go_upto_region 14 with fail
    by_cases k1 : v1 < 1
    · have hbad := hide (hR.out.1 (.inl k1))
      clear hR
      go_wp2_with fail
      exact bodyPost_ret (v := .tuple #[.agg #[.int .i64 0, .int .i64 0, .string ⟨#[]⟩], .int .i64 0, .int .i64 (2 : Nat)]) (by simp [results, Try.results46, go_sem, z0, z1, z2]) rfl (gotd_no hbad.out (refdec_out K4.out.1 _ _ _))
    by_cases k2 : 255 < v1
    · have hbad := hide (hR.out.1 (.inr k2))
      clear hR
      go_wp2_with fail
      exact bodyPost_ret (v := .tuple #[.agg #[.int .i64 0, .int .i64 0, .string ⟨#[]⟩], .int .i64 0, .int .i64 (2 : Nat)]) (by simp [results, Try.results46, go_sem, z0, z1, z2]) rfl (gotd_no hbad.out (refdec_out K4.out.1 _ _ _))
    by_cases k3 : 3155932800 < v2
    · have hbad := hide (hR.out.2.1 (by omega) k3)
      clear hR
      go_wp2_with fail
      exact bodyPost_ret (v := .tuple #[.agg #[.int .i64 0, .int .i64 0, .string ⟨#[]⟩], .int .i64 0, .int .i64 (10 : Nat)]) (by simp [results, Try.results46, go_sem, z0, z1, z2]) rfl (gotd_no hbad.out (refdec_out K4.out.1 _ _ _))
    have hok := hide (hR.out.2.2 (by omega) k3)
    have hs := run_str (P := Try.prog) _ 22 9 5 A3 c3 v3 _ Try.underlying22 Try.underlying5 Try.underlying9 T4.out
    clear hR
    go_wp2_with fail
    exact bodyPost_ret (v := .tuple #[.agg #[.int .i64 (v1 : Int), .int .i64 (v2 : Int), .string ⟨v3.toArray⟩], .int .i64 ((x3 : Int) + 4), .int .i64 0]) (by simp [results, Try.results46, go_sem, z0, z1, z2]) rfl (gotd_ok hok.out (refdec_out K4.out.1 _ _ _))

theorem refdecode_any (A : Option Addr) (n cap : Nat) (l : List UInt8) (a : Int) (w : World) (hn : n = l.length) (hl : l.length ≤ 1000000) (hcap : n ≤ cap) (hA : Lie w w.heap.size A (bytes l)) :
    Calls Try.prog 46 #[.slice A n cap, .int .i64 a] w (GotD w (Ent.dE l a)) := by
  subst hn
  by_cases h : (Bin.dU l a).e = 0
  · obtain ⟨h1, h2, h3, _⟩ := Bin.dU_ok l a h
    obtain ⟨k, rfl⟩ : ∃ k : Nat, a = (k : Int) := ⟨a.toNat, by omega⟩
    exact refdecode_in A cap l k w hl (by omega) hcap hA h
  · exact refdecode_bad A cap l a w hl hA h
end Go.Proofs.Ytjbdfmniiiaakaa
