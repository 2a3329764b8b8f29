/- length and Bytes return the length or the byte string, the index behind it and the error, for byte strings of at most 1000000 bytes, every index and every limit. -/
import Derived.Test.YtjbdfmniiiaakaaRuint
namespace Go.Proofs.Ytjbdfmniiiaakaa
set_option linter.unusedVariables false
open Go.RowKit

theorem got_l {g : Bin.Got Nat} {v n e : Nat} {V N E : Int} (h : g = ⟨v, n, e⟩) (hv : V = (v : Int)) (hn : N = (n : Int)) (he : E = (e : Int)) :
    Ending.returned (.tuple #[.int .i64 V, .int .i64 N, .int .i64 E]) = .returned (.tuple #[.int .i64 (g.v : Int), .int .i64 (g.next : Int), .int .i64 (g.e : Int)]) := by
  subst h hv hn he; rfl

theorem dLen_no {l : List UInt8} {a most : Int} {g : Bin.Got Nat} (h : Bin.dU l a = g) (he : 0 < g.e) : Bin.dLen l a most = ⟨0, 0, g.e⟩ := by
  subst h; unfold Bin.dLen; rw [if_neg (by omega)]
theorem dLen_lim {l : List UInt8} {a most : Int} {g : Bin.Got Nat} (h : Bin.dU l a = g) (he : g.e = 0) (hm : most < 0 ∨ most < (g.v : Int)) : Bin.dLen l a most = ⟨0, 0, 5⟩ := by
  subst h; unfold Bin.dLen; rw [if_pos he, if_pos hm]
theorem dLen_yes {l : List UInt8} {a most : Int} {g : Bin.Got Nat} (h : Bin.dU l a = g) (he : g.e = 0) (h0 : 0 ≤ most) (hm : (g.v : Int) ≤ most) : Bin.dLen l a most = ⟨g.v, g.next, 0⟩ := by
  subst h; unfold Bin.dLen; rw [if_pos he, if_neg (by omega)]
theorem dU_lt (l : List UInt8) (a : Int) : (Bin.dU l a).v < 18446744073709551616 := by
  by_cases h : (Bin.dU l a).e = 0
  · exact (Bin.dU_ok l a h).2.2.2.1
  · rw [Bin.dU_bad l a h]; simp

set_option maxRecDepth 100000 in
set_option maxHeartbeats 800000 in
theorem length_any (A : Option Addr) (n cap : Nat) (l : List UInt8) (a most : Int) (w : World) (hn : n = l.length) (hl : l.length ≤ 1000000) (hm : Fits most) (hA : Lie w w.heap.size A (bytes l)) :
    Calls Try.prog 62 #[.slice A n cap, .int .i64 a, .int .i64 most] w fun e w' => e = .returned (.tuple #[.int .i64 ((Bin.dLen l a most).v : Nat), .int .i64 ((Bin.dLen l a most).next : Nat), .int .i64 ((Bin.dLen l a most).e : Nat)]) ∧ w = w' := by
  subst hn
  obtain ⟨hm1, hm2⟩ := hm
  have hlt := dU_lt l a
  obtain ⟨g, hg⟩ : ∃ g, Bin.dU l a = g := ⟨_, rfl⟩
  have hu := uint_any A _ cap l a w rfl hl hA
  rw [hg] at hu hlt
  by_cases he : 0 < g.e
  · have HF := hide (dLen_no (most := most) hg he)
    clear hg
    go_enter Try.func62, Try.ntmps62
    go_wp2_with fail
    refine Calls.mono hu ?_
    rintro e w1 ⟨rfl, rfl⟩
    go_wp2_with fail
    go_ret3
    exact ⟨got_l HF.out rfl rfl rfl, rfl⟩
  · have he0 : g.e = 0 := by omega
    by_cases h0 : most < 0
    · have HF := hide (dLen_lim (most := most) hg he0 (.inl h0))
      clear hg he
      rw [he0] at hu
      go_enter Try.func62, Try.ntmps62
      go_wp2_with fail
      refine Calls.mono hu ?_
      rintro e w1 ⟨rfl, rfl⟩
      go_wp2_with fail
      go_ret3
      exact ⟨got_l HF.out rfl rfl rfl, rfl⟩
    · obtain ⟨m, rfl⟩ : ∃ m : Nat, most = (m : Int) := ⟨most.toNat, by omega⟩
      by_cases hv : m < g.v
      · have HF := hide (dLen_lim (most := m) hg he0 (.inr (by omega)))
        clear hg he
        rw [he0] at hu
        go_enter Try.func62, Try.ntmps62
        go_wp2_with fail
        refine Calls.mono hu ?_
        rintro e w1 ⟨rfl, rfl⟩
        go_wp2_with fail
        go_ret3
        exact ⟨got_l HF.out rfl rfl rfl, rfl⟩
      · have HF := hide (dLen_yes (most := m) hg he0 (by omega) (by omega))
        clear hg he
        rw [he0] at hu
        go_enter Try.func62, Try.ntmps62
        go_wp2_with fail
        refine Calls.mono hu ?_
        rintro e w1 ⟨rfl, rfl⟩
        go_wp2_with fail
        go_ret3
        exact ⟨got_l HF.out rfl rfl rfl, rfl⟩

theorem size_b : (Try.prog.info? 5).map (·.size) = some 1 := by kernel_rfl
/-- what a function hands back that returns a byte string, an index and an error. -/
def GotB (w : World) (g : Bin.Got (List UInt8)) (e : Ending) (w' : World) : Prop :=
  ∃ A c, e = .returned (.tuple #[.slice A g.v.length c, .int .i64 (g.next : Nat), .int .i64 (g.e : Nat)]) ∧ w'.ownsRow w.heap.size 5 1 (.slice A g.v.length c) g.v.length (bytes g.v) ∧ Below w.heap.size w w'
theorem gotb_no {w : World} {g : Bin.Got (List UInt8)} {e : Nat} (h : g = ⟨[], 0, e⟩) : GotB w g (.returned (.tuple #[.slice none 0 0, .int .i64 0, .int .i64 e])) w := by
  subst h
  exact ⟨none, 0, rfl, own_nil, Below.refl _ _⟩
theorem dB_no {l : List UInt8} {a most : Int} {g : Bin.Got Nat} (h : Bin.dLen l a most = g) (he : 0 < g.e) : Bin.dB l a most = ⟨[], 0, g.e⟩ := by
  subst h; unfold Bin.dB; rw [if_neg (by omega)]
theorem dB_cut' {l : List UInt8} {a most : Int} {g : Bin.Got Nat} (h : Bin.dLen l a most = g) (he : g.e = 0) (hc : l.length - g.next < g.v) : Bin.dB l a most = ⟨[], 0, 4⟩ := by
  subst h; unfold Bin.dB; rw [if_pos he, if_pos hc]
theorem dB_yes {l : List UInt8} {a most : Int} {g : Bin.Got Nat} (h : Bin.dLen l a most = g) (he : g.e = 0) (hc : g.v ≤ l.length - g.next) : Bin.dB l a most = ⟨(l.drop g.next).take g.v, g.next + g.v, 0⟩ := by
  subst h; unfold Bin.dB; rw [if_pos he, if_neg (by omega)]
theorem gotb_yes {w w' : World} {g : Bin.Got (List UInt8)} {v : List UInt8} {n k : Nat} {A : Option Addr} {c : Nat} {N : Int} (h : g = ⟨v, n, 0⟩) (hk : v.length = k) (hN : N = (n : Int)) (ho : w'.ownsRow w.heap.size 5 1 (.slice A k c) k (bytes v)) (hb : Below w.heap.size w w') :
    GotB w g (.returned (.tuple #[.slice A k c, .int .i64 N, .int .i64 0])) w' := by
  subst h hk hN
  exact ⟨A, c, rfl, ho, hb⟩
theorem lie_at {w : World} {B b o : Nat} {l : List UInt8} (h : Lie w B (some ⟨b, o, none⟩) (bytes l)) (k m : Nat) : Lie w B (some ⟨b, o + k, none⟩) (bytes ((l.drop k).take m)) := fun hp => by
  obtain ⟨b', o', h1, h2, h3⟩ := h (by simp only [bytes_len, List.length_drop, List.length_take] at hp ⊢; omega)
  simp only [Option.some.injEq, Addr.mk.injEq, and_true] at h1
  obtain ⟨rfl, rfl⟩ := h1
  refine ⟨b, o + k, rfl, h2, fun j u hu => ?_⟩
  rw [bytes_take, List.getElem?_take] at hu
  split at hu
  · rw [bytes_drop, List.getElem?_drop] at hu
    rw [Nat.add_assoc]
    exact h3 _ u hu
  · cases hu
theorem zeros_len_ (k : Nat) : (madeCells (Value.int .u8 0).cells (k * 1)).toList.length = k := by simp [madeCells]

set_option maxRecDepth 100000 in
set_option maxHeartbeats 1600000 in
theorem bytes_any (A : Option Addr) (n cap : Nat) (l : List UInt8) (a most : Int) (w : World) (hn : n = l.length) (hl : l.length ≤ 1000000) (hcap : n ≤ cap) (hm : Fits most) (hA : Lie w w.heap.size A (bytes l)) :
    Calls Try.prog 35 #[.slice A n cap, .int .i64 a, .int .i64 most] w (GotB w (Bin.dB l a most)) := by
  subst hn
  have hu := length_any A _ cap l a most w rfl hl hm hA
  have hok := Bin.dLen_ok l a most
  obtain ⟨g, hg⟩ : ∃ g, Bin.dLen l a most = g := ⟨_, rfl⟩
  rw [hg] at hu hok
  by_cases he : 0 < g.e
  · have HF := hide (dB_no hg he)
    clear hg hok
    go_enter Try.func35, Try.ntmps35
    go_wp2_with fail
    refine Calls.mono hu ?_
    rintro e w1 ⟨rfl, rfl⟩
    go_wp2_with fail
    go_ret3
    exact gotb_no HF.out
  · have he0 : g.e = 0 := by omega
    obtain ⟨_, hn1, hn2, _, _, _⟩ := hok he0
    rw [he0] at hu
    by_cases hv : l.length - g.next < g.v
    · have HF := hide (dB_cut' hg he0 hv)
      clear hg he
      go_enter Try.func35, Try.ntmps35
      go_wp2_with fail
      refine Calls.mono hu ?_
      rintro e w1 ⟨rfl, rfl⟩
      go_wp2_with fail
      go_ret3
      exact gotb_no (e := 4) HF.out
    · have HF := hide (dB_yes hg he0 (by omega))
      obtain ⟨v, next, er⟩ := g
      simp only at he0 hv hn1 hn2 hu HF
      clear hg he
      obtain ⟨i0, hi, hz0, hz1, hz2⟩ := info_parts info_b
      obtain ⟨b, o, rfl, hbB, _⟩ := hA (by rw [bytes_len]; omega)
      have hS := lie_at hA next v
      have hSl : ((l.drop next).take v).length = v := by simp; omega
      generalize (l.drop next).take v = S at hS hSl HF
      have HS := hide hSl
      obtain ⟨Z, hZ⟩ : ∃ Z, Z = (madeCells (Value.int .u8 0).cells (v * 1)).toList := ⟨_, rfl⟩
      have hZl : Z.length = v := by rw [hZ, zeros_len_]
      have HZ := hide hZ
      have HZl := hide hZl
      clear hZ hZl hSl
      have HL := hide (bytes_len S)
      have hv1 : v ≤ 1000000 := by omega
      have hv2 : next + v ≤ l.length := by omega
      rcases (show next < cap ∨ cap = next by omega) with hc | hc
      · go_enter Try.func35, Try.ntmps35
        go_wp2_with fail
        refine Calls.mono hu ?_
        rintro e w1 ⟨rfl, rfl⟩
        go_wp2_with (first
        | (at_make; refine wpList_make_full _ rfl (.tmp 30) (.tmp 30) _ rfl w.heap.size 5 i0 _ 1 Try.underlying22 hi hz0 hz1 .i64 .i64 _ _ v rfl rfl (by omega) (by omega) (by rw [hz2]; omega) (by unfold maxLen; omega) (Nat.le_refl _) ?_; intro w4 hown1 hgrow1; have hb4 : Below w.heap.size w w4 := (Below.refl _ _).grown hgrow1 (Nat.le_refl _) (by intro k hk; cases hk); have hB1 := hide (blk_of_own (by rw [← HZ.out] at hown1; exact hown1)).1; clear hown1 hgrow1)
        | (with_reducible refine wpList_copy_splice rfl (.tmp 32) (.tmp 38) _ _ rfl 5 Try.underlying22 size_b (some ⟨w.heap.size, 0, none⟩) (some ⟨b, o + next, none⟩) v v (next + v - next) (cap - next) rfl rfl w.heap.size 0 Z _ hB1.out.out (bytes S) (by rw [HL.out, HS.out, Nat.add_sub_cancel_left]; simp) (fun hp => ⟨rfl, (hS.below hb4).src hp⟩) (by rw [HL.out, HS.out, HZl.out]; omega) (bytes_one S) w.heap.size w hb4 (Nat.le_refl _) ?_; intro w5 HG5 hb5))
        go_ret3
        have hg : Blk w5 w.heap.size 5 (bytes S).toArray := by
          have := HG5.out
          unfold splice at this
          rw [List.take_zero, List.nil_append, List.drop_eq_nil_of_le (by rw [HL.out, HS.out, HZl.out]; omega), List.append_nil] at this
          exact this
        exact gotb_yes HF.out HS.out (by omega) (own_of_blk hg (Nat.le_refl _) (by rw [HL.out, HS.out]) (by unfold maxLen; omega)) hb5
      · subst hc
        obtain rfl : v = 0 := by omega
        obtain rfl : S = [] := List.eq_nil_of_length_eq_zero HS.out
        go_enter Try.func35, Try.ntmps35
        go_wp2_with fail
        refine Calls.mono hu ?_
        rintro e w1 ⟨rfl, rfl⟩
        go_wp2_with (first
        | (at_make; refine wpList_make_full _ rfl (.tmp 30) (.tmp 30) _ rfl w.heap.size 5 i0 _ 1 Try.underlying22 hi hz0 hz1 .i64 .i64 _ _ 0 rfl rfl (by omega) (by omega) (by rw [hz2]; omega) (by unfold maxLen; omega) (Nat.le_refl _) ?_; intro w4 hown1 hgrow1; have hb4 : Below w.heap.size w w4 := (Below.refl _ _).grown hgrow1 (Nat.le_refl _) (by intro k hk; cases hk); have hB1 := hide (blk_of_own (by rw [← HZ.out] at hown1; exact hown1)).1; clear hown1 hgrow1)
        | (with_reducible refine wpList_copy_splice rfl (.tmp 32) (.tmp 38) _ _ rfl 5 Try.underlying22 size_b (some ⟨w.heap.size, 0, none⟩) (some ⟨b, o, none⟩) 0 0 0 0 rfl rfl w.heap.size 0 Z _ hB1.out.out [] rfl (fun hp => absurd hp (by simp)) (by simp) (by simp) w.heap.size w hb4 (Nat.le_refl _) ?_; intro w5 HG5 hb5))
        go_ret3
        have hg : Blk w5 w.heap.size 5 (bytes []).toArray := by
          have := HG5.out
          rw [List.eq_nil_of_length_eq_zero HZl.out] at this
          exact this
        exact gotb_yes HF.out rfl (by omega) (own_of_blk hg (Nat.le_refl _) rfl (by unfold maxLen; omega)) hb5
end Go.Proofs.Ytjbdfmniiiaakaa
