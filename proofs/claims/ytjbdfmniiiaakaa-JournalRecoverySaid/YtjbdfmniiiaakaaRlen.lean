/- The reference's length and Bytes return the length or the byte string, the index behind it and the error, for byte strings of at most 1000000 bytes, every index and every limit. -/
import Derived.Test.YtjbdfmniiiaakaaLen
namespace Go.Proofs.Ytjbdfmniiiaakaa
set_option linter.unusedVariables false
open Go.RowKit

set_option maxRecDepth 100000 in
set_option maxHeartbeats 800000 in
theorem reflength_any (A : Option Addr) (n cap : Nat) (l : List UInt8) (a most : Int) (w : World) (hn : n = l.length) (hl : l.length ≤ 1000000) (hm : Fits most) (hA : Lie w w.heap.size A (bytes l)) :
    Calls Try.prog 77 #[.slice A n cap, .int .i64 a, .int .i64 most] w fun e w' => e = .returned (.tuple #[.int .i64 ((Bin.dLen l a most).v : Nat), .int .i64 ((Bin.dLen l a most).next : Nat), .int .i64 ((Bin.dLen l a most).e : Nat)]) ∧ w = w' := by
  subst hn
  obtain ⟨hm1, hm2⟩ := hm
  have hlt := dU_lt l a
  obtain ⟨g, hg⟩ : ∃ g, Bin.dU l a = g := ⟨_, rfl⟩
  have hu := refuint_any A _ cap l a w rfl hl hA
  rw [hg] at hu hlt
  by_cases he : 0 < g.e
  · have HF := hide (dLen_no (most := most) hg he)
    clear hg
    go_enter Try.func77, Try.ntmps77
    go_wp2_with fail
    refine Calls.mono hu ?_
    rintro e w1 ⟨rfl, rfl⟩
    go_wp2_with fail
    go_ret3
    exact ⟨got_l HF.out rfl rfl rfl, rfl⟩
  · have he0 : g.e = 0 := by omega
    by_cases h0 : most < 0
    · have HF := hide (dLen_lim (most := most) hg he0 (.inl h0))
      clear hg he
      rw [he0] at hu
      go_enter Try.func77, Try.ntmps77
      go_wp2_with fail
      refine Calls.mono hu ?_
      rintro e w1 ⟨rfl, rfl⟩
      go_wp2_with fail
      go_ret3
      exact ⟨got_l HF.out rfl rfl rfl, rfl⟩
    · obtain ⟨m, rfl⟩ : ∃ m : Nat, most = (m : Int) := ⟨most.toNat, by omega⟩
      by_cases hv : m < g.v
      · have HF := hide (dLen_lim (most := m) hg he0 (.inr (by omega)))
        clear hg he
        rw [he0] at hu
        go_enter Try.func77, Try.ntmps77
        go_wp2_with fail
        refine Calls.mono hu ?_
        rintro e w1 ⟨rfl, rfl⟩
        go_wp2_with fail
        go_ret3
        exact ⟨got_l HF.out rfl rfl rfl, rfl⟩
      · have HF := hide (dLen_yes (most := m) hg he0 (by omega) (by omega))
        clear hg he
        rw [he0] at hu
        go_enter Try.func77, Try.ntmps77
        go_wp2_with fail
        refine Calls.mono hu ?_
        rintro e w1 ⟨rfl, rfl⟩
        go_wp2_with fail
        go_ret3
        exact ⟨got_l HF.out rfl rfl rfl, rfl⟩

set_option maxRecDepth 100000 in
set_option maxHeartbeats 1600000 in
theorem refbytes_any (A : Option Addr) (n cap : Nat) (l : List UInt8) (a most : Int) (w : World) (hn : n = l.length) (hl : l.length ≤ 1000000) (hcap : n ≤ cap) (hm : Fits most) (hA : Lie w w.heap.size A (bytes l)) :
    Calls Try.prog 72 #[.slice A n cap, .int .i64 a, .int .i64 most] w (GotB w (Bin.dB l a most)) := by
  subst hn
  have hu := reflength_any A _ cap l a most w rfl hl hm hA
  have hok := Bin.dLen_ok l a most
  obtain ⟨g, hg⟩ : ∃ g, Bin.dLen l a most = g := ⟨_, rfl⟩
  rw [hg] at hu hok
  by_cases he : 0 < g.e
  · have HF := hide (dB_no hg he)
    clear hg hok
    go_enter Try.func72, Try.ntmps72
    go_wp2_with fail
    refine Calls.mono hu ?_
    rintro e w1 ⟨rfl, rfl⟩
    go_wp2_with fail
    go_ret3
    exact gotb_no HF.out
  · have he0 : g.e = 0 := by omega
    obtain ⟨_, hn1, hn2, _, _, _⟩ := hok he0
    rw [he0] at hu
    by_cases hv : l.length - g.next < g.v
    · have HF := hide (dB_cut' hg he0 hv)
      clear hg he
      go_enter Try.func72, Try.ntmps72
      go_wp2_with fail
      refine Calls.mono hu ?_
      rintro e w1 ⟨rfl, rfl⟩
      go_wp2_with fail
      go_ret3
      exact gotb_no (e := 4) HF.out
    · have HF := hide (dB_yes hg he0 (by omega))
      obtain ⟨v, next, er⟩ := g
      simp only at he0 hv hn1 hn2 hu HF
      clear hg he
      obtain ⟨i0, hi, hz0, hz1, hz2⟩ := info_parts info_b
      obtain ⟨b, o, rfl, hbB, _⟩ := hA (by rw [bytes_len]; omega)
      have hS := lie_at hA next v
      have hSl : ((l.drop next).take v).length = v := by simp; omega
      generalize (l.drop next).take v = S at hS hSl HF
      have HS := hide hSl
      have HL := hide (bytes_len S)
      have hv1 : v ≤ 1000000 := by omega
      have hv2 : next + v ≤ l.length := by omega
      rcases (show next < cap ∨ cap = next by omega) with hc | hc
      · go_enter Try.func72, Try.ntmps72
        go_wp2_with fail
        refine Calls.mono hu ?_
        rintro e w1 ⟨rfl, rfl⟩
        go_wp2_with (first
        | (at_builtin; refine wpList_app rfl (.tmp 30) (.tmp 36) _ rfl w.heap.size 5 i0 _ 1 1 Try.underlying22 hi hz0 hz1 hz2 rfl (by omega) none 0 0 [] rfl own_nil w.heap.size (some ⟨b, o + next, none⟩) (next + v - next) (cap - next) (bytes S) rfl (by rw [HL.out, HS.out]; omega) hS (bytes_one _) (by omega) (by unfold maxLen; omega) (Nat.le_refl _) w (Below.refl _ _) ?_; intro A2 c2 w2 HA2 hb2)
        | fail)
        go_ret3
        have ho := HA2.out.own
        rw [List.nil_append, Nat.zero_add, Nat.add_sub_cancel_left] at ho
        exact gotb_yes HF.out HS.out (by omega) ho hb2
      · subst hc
        obtain rfl : v = 0 := by omega
        obtain rfl : S = [] := List.eq_nil_of_length_eq_zero HS.out
        go_enter Try.func72, Try.ntmps72
        go_wp2_with fail
        refine Calls.mono hu ?_
        rintro e w1 ⟨rfl, rfl⟩
        go_wp2_with (first
        | (at_builtin; refine wpList_app rfl (.tmp 30) (.tmp 36) _ rfl w.heap.size 5 i0 _ 1 1 Try.underlying22 hi hz0 hz1 hz2 rfl (by omega) none 0 0 [] rfl own_nil w.heap.size (some ⟨b, o, none⟩) 0 0 (bytes []) rfl (by rfl) Lie.none_ (bytes_one _) (by omega) (by unfold maxLen; omega) (Nat.le_refl _) w (Below.refl _ _) ?_; intro A2 c2 w2 HA2 hb2)
        | fail)
        go_ret3
        have ho := HA2.out.own
        exact gotb_yes HF.out rfl (by omega) ho hb2
end Go.Proofs.Ytjbdfmniiiaakaa
