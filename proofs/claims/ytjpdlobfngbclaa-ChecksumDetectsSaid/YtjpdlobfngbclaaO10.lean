/- The walk of the law ChecksumDetects, for every input. -/
import Derived.Test.YtjpdlobfngbclaaN10
namespace Go.Proofs.Ytjpdlobfngbclaa
set_option linter.unusedVariables false
open Go.RowKit

theorem lie_drop {w : World} {B b o : Nat} {l : List UInt8} (h : Lie w B (some ⟨b, o, none⟩) (bytes l)) (k : Nat) : Lie w B (some ⟨b, o + k, none⟩) (bytes (l.drop k)) := fun hp => by
  obtain ⟨b', o', h1, h2, h3⟩ := h (by simp only [bytes_len, List.length_drop] at hp ⊢; omega)
  simp only [Option.some.injEq, Addr.mk.injEq, and_true] at h1
  obtain ⟨rfl, rfl⟩ := h1
  refine ⟨b, o + k, rfl, h2, fun j u hu => ?_⟩
  rw [bytes_drop, List.getElem?_drop] at hu
  rw [Nat.add_assoc]
  exact h3 _ u hu

theorem detects_law (l X : List UInt8) (at_ pat : Nat) (hp : pat < 4294967296) (h0 : pat ≠ 0) (hX : X.length = l.length) (hn : Crc.num X = Crc.num l ^^^ 2 ^ at_ * pat) : Ent.verify (X ++ Ent.tail4 (Crc.sum l)) = ([], 38) := by
  refine Ent.verify_ne X _ rfl fun h => ?_
  have := Ent.tail4_inj _ _ (Crc.sum_lt l) (Crc.sum_lt X) h
  exact Crc.sum_ne l X hX.symm pat at_ hp h0 (Crc.burst_in l X hX pat at_ h0 hn) hn this.symm

set_option maxRecDepth 100000 in
set_option maxHeartbeats 1600000 in
theorem detects_main (A : Option Addr) (ca : Nat) (l : List UInt8) (at_ pat : Nat) (w : World) (hl : l.length ≤ 4096) (hat : at_ ≤ 32768) (hp : pat < 4294967296) (h0 : 0 < pat) (hA : Lie w w.heap.size A (bytes l)) :
    Calls Try.prog 8 #[.slice A l.length ca, .int .i64 at_, .int .u32 pat] w fun e w' => e = .returned (.bool true) ∧ Below w.heap.size w w' := by
  have hp0 : ((pat : Int) == 0) = false := by simp; omega
  obtain ⟨i0, hi, hz0, hz1, hz2⟩ := info_parts info_u8
  go_enter Try.func8, Try.ntmps8
  go_wp2_with fail
  refine Calls.mono (flip_any _ _ _ l at_ pat _ rfl (by omega) hp hA) ?_
  rintro e w1 ⟨hb1, hf⟩
  rcases hf with ⟨rfl, -⟩ | ⟨g, C, cs, rfl, hg, hrow, hst⟩
  · go_wp2_with fail
    refine (append_any _ _ _ l _ rfl (by omega) ((hA.below hb1).more hb1.size)).mono ?_
    rintro e w2 ⟨g2, rfl, hown2, hb2⟩
    clear hown2
    go_wp2_with (go_at_call 15; refine (example10_any _).mono ?_; rintro e w6 ⟨rfl, hb6⟩)
    go_ret
    exact ⟨rfl, chain (chain hb1 hb2) hb6⟩
  · obtain ⟨q1, q2, X, q3, q4, q5⟩ := hst.bytes_ hp
    have hv := detects_law l X at_ pat hp (by omega) q3 q5
    have HQ := hide q3
    have HV := hide hv
    have HC := hide q1
    have HX := hide q4
    clear q1 q3 q4 q5 hst hv
    go_wp2_with fail
    refine (append_any _ _ _ l _ rfl (by omega) ((hA.below hb1).more hb1.size)).mono ?_
    rintro e w2 ⟨g2, rfl, hown2, hb2⟩
    have hb12 := chain hb1 hb2
    have hrow2 := hrow.below hb2 hrow.lt
    have hs2 := lie_drop (Lie.of_own hown2) l.length
    rw [show (Ent.sealed l).drop l.length = Ent.tail4 (Crc.sum l) from List.drop_left, Nat.zero_add] at hs2
    clear hown2
    have hle : (l.length : Int) ≤ (l.length : Int) + 4 := by omega
    go_wp2_with (first
      | (at_builtin; refine wpList_app_row rfl (.tmp 57) (.tmp 61) _ rfl 5 i0 _ 1 Try.underlying22 hi hz0 hz1 hz2 rfl g l.length C cs hrow2 HC.out (bytes X) rfl q2 HX.out _ (some ⟨g2, l.length, none⟩) 4 4 (bytes (Ent.tail4 (Crc.sum l))) rfl rfl (by omega) hs2 (bytes_one _) (by omega) (by unfold maxLen; omega) w.heap.size hg w hb12 hb12.size ?_; intro A3 c3 w3 HA3 hb3)
      | fail)
    have hl3 := HA3.out.1
    have hc3 := HA3.out.2
    rw [← bytes_append] at hl3
    refine Calls.mono (verify_any _ _ _ (X ++ Ent.tail4 (Crc.sum l)) _ (by rw [List.length_append, HQ.out]; rfl) (by rw [List.length_append, HQ.out, Ent.tail4_len]; omega) hc3 hl3) ?_
    intro e w4 hv
    obtain ⟨B4, c4, rfl, hb4⟩ := ver_38 HV.out hv
    clear hv
    go_wp2_with (go_at_call 15; refine (example10_any _).mono ?_; rintro e w6 ⟨rfl, hb6⟩)
    go_ret
    exact ⟨rfl, chain (chain hb3 hb4) hb6⟩

set_option maxRecDepth 100000 in
set_option maxHeartbeats 800000 in
theorem walk_ChecksumDetects (a0 : Option Addr) (len0 cap0 : Nat) (z0 : List Int) (a1 : Int) (a2 : Int) (w : World) (w0 : IsRow .u8 w a0 len0 cap0 z0) (w1 : (Lit.int .i64 a1).wf = true) (w2 : (Lit.int .u32 a2).wf = true) :
    Calls Try.prog 8 #[.slice a0 len0 cap0, .int .i64 a1, .int .u32 a2] w fun e w' => e = .returned (.bool true) ∧ Below w.heap.size w w' := by
  obtain ⟨l, rfl, _, hA⟩ := row_bytes w0
  obtain ⟨pat, rfl, hp⟩ := u32_wf w2
  clear w0 w1 w2
  by_cases hl : 4096 < l.length
  · go_enter Try.func8, Try.ntmps8
    go_wp2_with (go_at_call 15; refine (example10_any _).mono ?_; rintro e w1 ⟨rfl, hb1⟩)
    go_ret
    exact ⟨rfl, hb1⟩
  · by_cases h1 : a1 < 0
    · go_enter Try.func8, Try.ntmps8
      go_wp2_with (go_at_call 15; refine (example10_any _).mono ?_; rintro e w1 ⟨rfl, hb1⟩)
      go_ret
      exact ⟨rfl, hb1⟩
    · by_cases h2 : 32768 < a1
      · go_enter Try.func8, Try.ntmps8
        go_wp2_with (go_at_call 15; refine (example10_any _).mono ?_; rintro e w1 ⟨rfl, hb1⟩)
        go_ret
        exact ⟨rfl, hb1⟩
      · by_cases h0 : 0 < pat
        · obtain ⟨at_, rfl⟩ : ∃ n : Nat, a1 = (n : Int) := ⟨a1.toNat, by omega⟩
          exact detects_main a0 cap0 l at_ pat w (by omega) (by omega) hp h0 hA
        · obtain rfl : pat = 0 := by omega
          go_enter Try.func8, Try.ntmps8
          go_wp2_with (go_at_call 15; refine (example10_any _).mono ?_; rintro e w1 ⟨rfl, hb1⟩)
          go_ret
          exact ⟨rfl, hb1⟩
end Go.Proofs.Ytjpdlobfngbclaa
