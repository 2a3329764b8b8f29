/- The reference's Append and Verify return the sealed string, and the byte string or the error, for byte strings of at most 1000000 bytes. -/
import Derived.Test.YtjpdlobfngbclaaVer
import Derived.Test.YtjpdlobfngbclaaLaw
namespace Go.Proofs.Ytjpdlobfngbclaa
set_option linter.unusedVariables false
open Go.RowKit

set_option maxRecDepth 100000 in
set_option maxHeartbeats 800000 in
theorem refappend_any (A : Option Addr) (n cap : Nat) (l : List UInt8) (w : World) (hn : n = l.length) (hl : l.length ≤ 1000000) (hA : Lie w w.heap.size A (bytes l)) :
    Calls Try.prog 23 #[.slice A n cap] w fun e w' => ∃ B c, e = .returned (.slice B (l.length + 4) c) ∧
      w'.ownsRow w.heap.size 5 1 (.slice B (l.length + 4) c) (l.length + 4) (bytes (Ent.sealed l)) ∧ Below w.heap.size w w' := by
  subst hn
  obtain ⟨s0, s1, s2, s3, hs⟩ := tail4_four (Crc.sum l)
  have hsc := seal_cells (Crc.sum l) (Crc.sum_lt l)
  have hlt := Crc.sum_lt l
  obtain ⟨i0, hi, hz0, hz1, hz2⟩ := info_parts info_u8
  have HS := hide hsc
  have HL := hide (bytes_len l)
  clear hs hsc
  go_enter Try.func23, Try.ntmps23
  go_wp2_with (first
    | (go_at_call 17; refine (refsum_any A _ cap l _ rfl (by omega) hA).mono ?_; rintro e w1 ⟨rfl, rfl⟩)
    | (at_builtin; refine wpList_app rfl (.tmp 7) (.tmp 8) _ rfl w.heap.size 5 i0 _ 1 1 Try.underlying22 hi hz0 hz1 hz2 rfl (by omega) none 0 0 [] rfl own_nil w.heap.size A l.length cap (bytes l) rfl (by rw [HL.out]; omega) hA (bytes_one l) (by omega) (by unfold maxLen; omega) (Nat.le_refl _) w (Below.refl _ _) ?_; intro A1 c1 w1 HA1 hb1)
    | (at_builtin; (refine wpList_app rfl (.tmp 10) (.tmp 22) _ rfl w.heap.size 5 i0 _ 1 1 Try.underlying22 hi hz0 hz1 hz2 rfl (by omega) A1 l.length c1 _ (by simp [Act.eval]) (by simpa using HA1.out.own.alloc _) _ _ 4 4 _ rfl rfl (Lie.new _ _ _) ?c1 (by omega) (by unfold maxLen; omega) ?c2 w ?c3 ?c4)))
  case c1 =>
    intro u hu
    simp at hu
    rcases hu with rfl | rfl | rfl | rfl <;> rfl
  case c2 => have := hb1.size; simp; omega
  case c3 => exact hb1.alloc hb1.size _
  case c4 =>
    intro A2 c2 w2 HA2 hb2
    go_wp2_with fail
    go_ret
    refine ⟨A2, c2, rfl, ?_, hb2⟩
    have e : bytes (Ent.sealed l) = bytes l ++ [Value.int .u8 ((Crc.sum l : Int) / 16777216), Value.int .u8 ((Crc.sum l : Int) / 65536 % 256), Value.int .u8 ((Crc.sum l : Int) / 256 % 256), Value.int .u8 ((Crc.sum l : Int) % 256)] := by
      unfold Ent.sealed
      rw [bytes_append]
      congr 1
      exact congrArg Array.toList HS.out
    rw [e]
    exact HA2.out.own

/-- what the reference's Verify hands back. -/
def RefVerGot (w : World) (A : Option Addr) (cap : Nat) (l : List UInt8) (e : Ending) (w' : World) : Prop :=
  Below w.heap.size w w' ∧ ((e = .returned (.tuple #[.slice none 0 0, .int .i64 ((Ent.verify l).2 : Nat)]) ∧ (Ent.verify l).1 = []) ∨
    (e = .returned (.tuple #[.slice A (l.length - 4) cap, .int .i64 0]) ∧ Ent.verify l = (l.take (l.length - 4), 0)))

theorem refver_yes {w w' : World} {A : Option Addr} {cap : Nat} {l : List UInt8} (h : Ent.sealed (l.take (l.length - 4)) = l) (hb : Below w.heap.size w w') :
    RefVerGot w A cap l (.returned (.tuple #[.slice A (l.length - 4) cap, .int .i64 0])) w' := by
  refine ⟨hb, .inr ⟨rfl, ?_⟩⟩
  have := Ent.verify_sealed (l.take (l.length - 4))
  rw [h] at this
  exact this
theorem refver_no {w w' : World} {A : Option Addr} {cap : Nat} {l : List UInt8} (h4 : 4 ≤ l.length) (h : ¬ Ent.sealed (l.take (l.length - 4)) = l) (hb : Below w.heap.size w w') :
    RefVerGot w A cap l (.returned (.tuple #[.slice none 0 0, .int .i64 38])) w' := by
  have hv := Ent.verify_ne (l.take (l.length - 4)) (l.drop (l.length - 4)) (by simp; omega) (fun e => h (by unfold Ent.sealed; rw [← e, List.take_append_drop]))
  rw [List.take_append_drop] at hv
  refine ⟨hb, .inl ⟨by rw [hv]; rfl, by rw [hv]⟩⟩
theorem refver_short {w : World} {A : Option Addr} {cap : Nat} {l : List UInt8} (h4 : l.length < 4) :
    RefVerGot w A cap l (.returned (.tuple #[.slice none 0 0, .int .i64 4])) w := by
  have hv : Ent.verify l = ([], 4) := by unfold Ent.verify; rw [if_pos h4]
  refine ⟨Below.refl _ _, .inl ⟨by rw [hv]; rfl, by rw [hv]⟩⟩

set_option maxRecDepth 100000 in
set_option maxHeartbeats 800000 in
theorem refverify_any (A : Option Addr) (n cap : Nat) (l : List UInt8) (w : World) (hn : n = l.length) (hl : l.length ≤ 1000000) (hcap : n ≤ cap) (hA : Lie w w.heap.size A (bytes l)) :
    Calls Try.prog 24 #[.slice A n cap] w (RefVerGot w A cap l) := by
  subst hn
  by_cases h4 : l.length < 4
  · go_enter Try.func24, Try.ntmps24
    go_wp2_with fail
    go_ret2
    exact refver_short h4
  · have hP : Lie w w.heap.size A (bytes (l.take (l.length - 4))) := fun hp => by
      obtain ⟨b, o, h1, h2, h3⟩ := hA (by rw [bytes_len]; omega)
      refine ⟨b, o, h1, h2, fun j u hu => h3 j u ?_⟩
      rw [bytes_take, List.getElem?_take] at hu
      split at hu
      · exact hu
      · cases hu
    have hk : (0 : Int) ≤ (l.length : Int) - 4 := by omega
    have hk2 : (l.length : Int) - 4 ≤ (cap : Int) := by omega
    go_enter Try.func24, Try.ntmps24
    go_wp2_with (first
      | (go_at_call 23; refine (refappend_any A _ cap (l.take (l.length - 4)) _ (by rw [List.length_take]; omega) (by rw [List.length_take]; omega) hP).mono ?_; rintro e w1 ⟨B, c, rfl, hown, hb1⟩)
      | (go_at_call 22; refine (same_any B A _ _ c cap (Ent.sealed (l.take (l.length - 4))) l _ (by rw [Ent.sealed_len, List.length_take]; omega) rfl (Lie.of_own hown) ((hA.below hb1).more hb1.size)).mono ?_; rintro e w2 ⟨rfl, rfl⟩))
    · have hne : (!Ent.sealed (l.take (l.length - 4)) == l) = true := by assumption
      go_ret2
      exact refver_no (by omega) (fun h => by rw [h] at hne; simp at hne) hb1
    · have hne : (!Ent.sealed (l.take (l.length - 4)) == l) = false := by assumption
      go_ret2
      exact refver_yes (by simpa using hne) hb1
end Go.Proofs.Ytjpdlobfngbclaa
