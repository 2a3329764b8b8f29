/- The reference's Int, Bool and Ints return the value, the index behind it and the error, for byte strings of at most 1000000 bytes, every index and every limit. -/
import Derived.Test.YtjpdlobfngbclabRlen
import Derived.Test.YtjpdlobfngbclabInt
namespace Go.Proofs.Ytjpdlobfngbclab
set_option linter.unusedVariables false
open Go.RowKit

set_option maxRecDepth 100000 in
set_option maxHeartbeats 800000 in
theorem refint_any (A : Option Addr) (n cap : Nat) (l : List UInt8) (a : Int) (w : World) (hn : n = l.length) (hl : l.length ≤ 1000000) (hA : Lie w w.heap.size A (bytes l)) :
    Calls Try.prog 24 #[.slice A n cap, .int .i64 a] w fun e w' => e = .returned (.tuple #[.int .i64 (Bin.dI l a).v, .int .i64 ((Bin.dI l a).next : Nat), .int .i64 ((Bin.dI l a).e : Nat)]) ∧ w = w' := by
  subst hn
  have hlt := dU_lt l a
  have hu := refuint_any A _ cap l a w rfl hl hA
  obtain ⟨g, hg⟩ : ∃ g, Bin.dU l a = g := ⟨_, rfl⟩
  rw [hg] at hu hlt
  by_cases he : 0 < g.e
  · have HF := hide (dI_no hg he)
    clear hg
    go_enter Try.func24, Try.ntmps24
    go_wp2_with fail
    refine Calls.mono hu ?_
    rintro e w1 ⟨rfl, rfl⟩
    go_wp2_with fail
    go_ret3
    exact ⟨got_i HF.out rfl rfl rfl, rfl⟩
  · have he0 : g.e = 0 := by omega
    by_cases h2 : g.v % 2 = 0
    · have HF := hide (dI_even hg he0 h2)
      have hb : (g.v : Int) % 2 = 0 := by omega
      rw [he0] at hu
      obtain ⟨u, next, er⟩ := g
      simp only at hu hlt hb HF
      clear hg he h2
      go_enter Try.func24, Try.ntmps24
      go_wp2_with fail
      refine Calls.mono hu ?_
      rintro e w1 ⟨rfl, rfl⟩
      go_wp2_with fail
      go_ret3
      exact ⟨got_i HF.out (by omega) rfl rfl, rfl⟩
    · have h3 : g.v % 2 = 1 := by omega
      have HF := hide (dI_odd hg he0 h3)
      have hb : (g.v : Int) % 2 = 1 := by omega
      rw [he0] at hu
      obtain ⟨u, next, er⟩ := g
      simp only at hu hlt hb HF
      clear hg he h2 h3
      go_enter Try.func24, Try.ntmps24
      go_wp2_with fail
      refine Calls.mono hu ?_
      rintro e w1 ⟨rfl, rfl⟩
      go_wp2_with fail
      go_ret3
      exact ⟨got_i HF.out (by omega) rfl rfl, rfl⟩

set_option maxRecDepth 100000 in
set_option maxHeartbeats 800000 in
theorem refbool_any (A : Option Addr) (n cap : Nat) (l : List UInt8) (a : Int) (w : World) (hn : n = l.length) (hl : l.length ≤ 1000000) (hA : Lie w w.heap.size A (bytes l)) :
    Calls Try.prog 28 #[.slice A n cap, .int .i64 a] w fun e w' => e = .returned (.tuple #[.bool (Bin.dV l a).v, .int .i64 ((Bin.dV l a).next : Nat), .int .i64 ((Bin.dV l a).e : Nat)]) ∧ w = w' := by
  subst hn
  by_cases h0 : a < 0
  · have HF := hide (dV_out (l := l) (.inl h0))
    go_enter Try.func28, Try.ntmps28
    go_wp2_with fail
    go_ret3
    exact ⟨got_v HF.out rfl rfl rfl, rfl⟩
  by_cases h1 : (l.length : Int) < a
  · have HF := hide (dV_out (l := l) (.inr h1))
    go_enter Try.func28, Try.ntmps28
    go_wp2_with fail
    go_ret3
    exact ⟨got_v HF.out rfl rfl rfl, rfl⟩
  obtain ⟨k, rfl⟩ : ∃ k : Nat, a = (k : Int) := ⟨a.toNat, by omega⟩
  by_cases h2 : k = l.length
  · subst h2
    have HF := hide (dV_end l)
    go_enter Try.func28, Try.ntmps28
    go_wp2_with fail
    go_ret3
    exact ⟨got_v HF.out rfl rfl rfl, rfl⟩
  have hlt : k < l.length := by omega
  have HF := hide (dV_at hlt)
  obtain ⟨b, o, rfl, hbB, hcell⟩ := hA.at_ (k := k) (by rw [bytes_len]; exact hlt)
  rw [bytes_get l _ hlt] at hcell
  generalize l[k] = x at hcell HF
  by_cases h3 : 1 < x.toNat
  · have HG := hide (HF.out.trans (if_pos h3))
    clear HF h0 h1 h2
    go_enter Try.func28, Try.ntmps28
    go_wp2_with fail
    go_ret3
    exact ⟨got_v HG.out rfl rfl rfl, rfl⟩
  · have HG := hide (HF.out.trans (if_neg h3))
    clear HF h0 h1 h2
    go_enter Try.func28, Try.ntmps28
    go_wp2_with fail
    go_ret3
    exact ⟨got_v HG.out (beq_one _) (by omega) rfl, rfl⟩

set_option maxRecDepth 100000 in
set_option maxHeartbeats 1600000 in
theorem refints_any (A : Option Addr) (n cap : Nat) (l : List UInt8) (a most : Int) (w : World) (hn : n = l.length) (hl : l.length ≤ 1000000) (hm : Fits most) (hA : Lie w w.heap.size A (bytes l)) :
    Calls Try.prog 30 #[.slice A n cap, .int .i64 a, .int .i64 most] w (GotL w (Bin.dL l a most)) := by
  subst hn
  have hu := reflength_any A _ cap l a most w rfl hl hm hA
  have hok := Bin.dLen_ok l a most
  obtain ⟨g, hg⟩ : ∃ g, Bin.dLen l a most = g := ⟨_, rfl⟩
  rw [hg] at hu hok
  by_cases he : 0 < g.e
  · have HF := hide (dL_no hg he)
    clear hg hok
    go_enter Try.func30, Try.ntmps30
    go_wp2_with fail
    refine Calls.mono hu ?_
    rintro e w1 ⟨rfl, rfl⟩
    go_wp2_with fail
    go_ret3
    exact gotl_no HF.out (Below.refl _ _)
  · have he0 : g.e = 0 := by omega
    obtain ⟨_, hn1, hn2, _, hvm, _⟩ := hok he0
    have HF := hide (dL_yes hg he0)
    rw [he0] at hu
    obtain ⟨v, n0, er⟩ := g
    simp only at hn1 hn2 hu HF hvm
    have hv63 : v ≤ 9223372036854775807 := by have := hm.2; omega
    clear hg he hok he0 hn1
    obtain ⟨i0, hi, hz0, hz1, hz2⟩ := info_parts info_i
    generalize Bin.dL l a most = G at *
    go_enter Try.func30, Try.ntmps30
    go_wp2_with fail
    refine Calls.mono hu ?_
    rintro e w1 ⟨rfl, rfl⟩
    go_wp2_with fail
    clear hu
    go_loopw [10, 12, 13] (fun x s i wr => ∃ (k a1 : Nat) (B : Option Addr) (c : Nat) (out : List Int), k ≤ v ∧ k ≤ a1 ∧ a1 ≤ l.length ∧ x = .int .i64 a1 ∧ s = .slice B k c ∧ i = .int .i64 k ∧ Hid (out.length = k) ∧ Hid (G = pre out (Bin.dIs l (v - k) a1)) ∧
      wr.ownsRow w.heap.size 3 1 (.slice B k c) k (ints out) ∧ Below w.heap.size w wr) (fun _ _ i _ => v - (intOf i).toNat)
    case atStart => exact ⟨0, n0, none, 0, [], by omega, by omega, hn2, rfl, rfl, rfl, rfl, HF, own_nil, Below.refl _ _⟩
    case round =>
      obtain ⟨k, a1, B, c, out, hk, hka, ha1, rfl, rfl, rfl, HO, HG, hown, hbw⟩ := hrel
      by_cases hlt : k < v
      · have hi1 := refint_any A _ cap l (a1 : Int) wr rfl hl ((hA.below hbw).more hbw.size)
        have hok := Bin.dI_ok l (a1 : Int)
        obtain ⟨g, hg⟩ : ∃ g, Bin.dI l (a1 : Int) = g := ⟨_, rfl⟩
        rw [hg] at hi1 hok
        have hvk : v - k = (v - (k + 1)) + 1 := by omega
        by_cases he : 0 < g.e
        · have HF2 : Hid (G = ⟨[], 0, g.e⟩) := HG.out.trans (by rw [hvk]; exact pre_no hg he)
          clear hg hok hvk HG
          go_wp2_with fail
          refine Calls.mono hi1 ?_
          rintro e w2 ⟨rfl, rfl⟩
          go_wp2_with fail
          go_ret3
          exact gotl_no HF2.out hbw
        · have he0 : g.e = 0 := by omega
          obtain ⟨_, hq1, hq2, hq3, _⟩ := hok he0
          have HF2 : Hid (G = pre (out ++ [g.v]) (Bin.dIs l (v - (k + 1)) g.next)) := HG.out.trans (by rw [hvk]; exact pre_step hg he0)
          rw [he0] at hi1
          obtain ⟨x, a2, er2⟩ := g
          simp only [Int.toNat_natCast] at hq1 hq2 hi1 HF2
          clear hg hok hvk HG he he0
          go_wp2_with fail
          refine Calls.mono hi1 ?_
          rintro e w2 ⟨rfl, rfl⟩
          go_wp2_with (at_builtin; refine wpList_app rfl (.tmp 43) (.tmp 45) _ rfl w.heap.size 3 i0 _ 1 8 Try.underlying51 hi hz0 hz1 hz2 rfl (by omega) B k c (ints out) (by simp [Act.eval]) (hown.alloc _) (wr.heap.size + 1) (some ⟨wr.heap.size, 0, none⟩) 1 1 (ints [x]) rfl rfl (Lie.new wr (ints [x]) _) (ints_one [x]) (by omega) (by unfold maxLen; omega) (by have := hbw.size; simp; omega) w (hbw.alloc hbw.size _) ?_; intro A2 c2 w2 HA2 hb2)
          go_roundw
          case rel =>
            refine ⟨k + 1, a2, A2, c2, out ++ [x], by omega, by omega, hq2, rfl, rfl, by go_num, ?_, HF2, by rw [ints_append]; exact HA2.out.own, hb2⟩
            show _ = _
            rw [List.length_append, HO.out]; rfl
          case measure => simp [intOf]; omega
      · obtain rfl : k = v := by omega
        have HF2 : Hid (G = ⟨out, a1, 0⟩) := HG.out.trans (by rw [Nat.sub_self]; exact pre_end out l a1)
        go_wp2_with fail
        go_ret3
        exact gotl_yes HF2.out HO.out hown hbw
end Go.Proofs.Ytjpdlobfngbclab
