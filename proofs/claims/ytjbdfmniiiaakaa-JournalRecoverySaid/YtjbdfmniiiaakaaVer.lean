/- The program's Verify returns the byte string or the error, for byte strings of at most 1000000 bytes. -/
import Derived.Test.YtjbdfmniiiaakaaApp
namespace Go.Proofs.Ytjbdfmniiiaakaa
set_option linter.unusedVariables false
open Go.RowKit

theorem run_index4 (W : World) (x0 x1 x2 x3 : Value) :
    ((Instr.index 109 (.agg #[x0, x1, x2, x3]) (.int .i64 0)).run Try.prog W = .ok x0 W) ∧ ((Instr.index 109 (.agg #[x0, x1, x2, x3]) (.int .i64 1)).run Try.prog W = .ok x1 W) ∧
    ((Instr.index 109 (.agg #[x0, x1, x2, x3]) (.int .i64 2)).run Try.prog W = .ok x2 W) ∧ ((Instr.index 109 (.agg #[x0, x1, x2, x3]) (.int .i64 3)).run Try.prog W = .ok x3 W) :=
  ⟨by kernel_rfl, by kernel_rfl, by kernel_rfl, by kernel_rfl⟩

set_option maxRecDepth 100000 in
set_option maxHeartbeats 800000 in
theorem verify_short (A : Option Addr) (n cap : Nat) (w : World) (hn : n < 4) :
    Calls Try.prog 70 #[.slice A n cap] w fun e w' => e = .returned (.tuple #[.slice none 0 0, .int .i64 4]) ∧ w = w' := by
  go_enter Try.func70, Try.ntmps70
  go_wp2_with fail
  go_ret2
  exact ⟨rfl, rfl⟩

/-- what Verify hands back of the bytes l, called in the world w. -/
def VerGot (w : World) (l : List UInt8) (e : Ending) (w' : World) : Prop :=
  ∃ B c, e = .returned (.tuple #[.slice B (Ent.verify l).1.length c, .int .i64 ((Ent.verify l).2 : Nat)]) ∧
    w'.ownsRow w.heap.size 5 1 (.slice B (Ent.verify l).1.length c) (Ent.verify l).1.length (bytes (Ent.verify l).1) ∧ Below w.heap.size w w'

theorem ver_no {w w' : World} {p : List UInt8} {t0 t1 t2 t3 s0 s1 s2 s3 : UInt8} (hs : Ent.tail4 (Crc.sum p) = [s0, s1, s2, s3]) (hne : ¬ (t0 = s0 ∧ t1 = s1 ∧ t2 = s2 ∧ t3 = s3)) (hb : Below w.heap.size w w') :
    VerGot w (p ++ [t0, t1, t2, t3]) (.returned (.tuple #[.slice none 0 0, .int .i64 38])) w' := by
  have hv := Ent.verify_ne p [t0, t1, t2, t3] rfl (by rw [hs]; intro h; simp at h; exact hne h)
  unfold VerGot
  rw [hv]
  exact ⟨none, 0, rfl, World.ownsRow_nil _ _ _ _, hb⟩
theorem ver_yes {w w' : World} {p : List UInt8} {t0 t1 t2 t3 s0 s1 s2 s3 : UInt8} {g : Nat} (hs : Ent.tail4 (Crc.sum p) = [s0, s1, s2, s3]) (he : t0 = s0 ∧ t1 = s1 ∧ t2 = s2 ∧ t3 = s3) (hb : Below w.heap.size w w')
    (hg : Blk w' g 5 (bytes p).toArray) (hB : w.heap.size ≤ g) (hl : p.length ≤ 1000000) :
    VerGot w (p ++ [t0, t1, t2, t3]) (.returned (.tuple #[.slice (some ⟨g, 0, none⟩) p.length p.length, .int .i64 0])) w' := by
  obtain ⟨rfl, rfl, rfl, rfl⟩ := he
  have hv := Ent.verify_sealed p
  unfold Ent.sealed at hv
  rw [hs] at hv
  unfold VerGot
  rw [hv]
  exact ⟨_, _, rfl, own_of_blk hg hB (bytes_len p) (by show p.length ≤ maxLen; unfold maxLen; omega), hb⟩
theorem byte_ne {a b : UInt8} (h : ((a.toNat : Int) != (b.toNat : Int)) = true) : a ≠ b := by
  rintro rfl
  simp at h
theorem byte_eq {a b : UInt8} (h : ((a.toNat : Int) != (b.toNat : Int)) = false) : a = b := by
  simp at h
  exact UInt8.toNat_inj.1 (by omega)

set_option maxRecDepth 100000 in
set_option maxHeartbeats 800000 in
theorem verify_long (A : Option Addr) (cap : Nat) (p : List UInt8) (t0 t1 t2 t3 : UInt8) (w : World) (hl : p.length ≤ 1000000) (hcap : p.length + 4 ≤ cap) (hA : Lie w w.heap.size A (bytes (p ++ [t0, t1, t2, t3]))) :
    Calls Try.prog 70 #[.slice A (p.length + 4) cap] w (VerGot w (p ++ [t0, t1, t2, t3])) := by
  obtain ⟨s0, s1, s2, s3, hs⟩ := tail4_four (Crc.sum p)
  have HS := hide hs
  clear hs
  obtain ⟨b, o, rfl, hbB, hcell⟩ := hA (by simp [bytes])
  have hP : Lie w w.heap.size (some ⟨b, o, none⟩) (bytes p) := fun _ => ⟨b, o, rfl, hbB, fun j u hu => hcell j u (by rw [bytes_append, List.getElem?_append_left (List.getElem?_eq_some_iff.1 hu).1]; exact hu)⟩
  go_enter Try.func70, Try.ntmps70
  go_wp2_with (first
    | (go_at_call 74; refine (crc_any _ _ cap p _ rfl (by omega) hP).mono ?_; rintro e w1 ⟨rfl, hb1⟩)
    | (go_at_call 73; refine (seal_any (Crc.sum p) _ (Crc.sum_lt p) s0 s1 s2 s3 HS.out).mono ?_; rintro e w2 ⟨rfl, hb2⟩))
  have hb3 : Below w.heap.size w (w2.alloc (.cells #[.int .u8 s0.toNat, .int .u8 s1.toNat, .int .u8 s2.toNat, .int .u8 s3.toNat] 109)) :=
    (hb1.trans (hb2.mono hb1.size)).alloc (Nat.le_trans hb1.size hb2.size) _
  generalize w2.alloc (.cells #[.int .u8 s0.toNat, .int .u8 s1.toNat, .int .u8 s2.toNat, .int .u8 s3.toNat] 109) = w3 at *
  clear hb1 hb2
  have hc : ∀ (i : Nat) (x : UInt8), [t0, t1, t2, t3][i]? = some x → w3.cell? ⟨b, o + (p.length + i), none⟩ = some (.int .u8 x.toNat) := by
    intro i x hx
    refine (hb3.cell (p := ⟨b, o + (p.length + i), none⟩) hbB).trans (hcell _ _ ?_)
    rw [bytes_append, List.getElem?_append_right (by rw [bytes_len]; omega), bytes_len, Nat.add_sub_cancel_left]
    rw [show bytes [t0, t1, t2, t3] = [t0, t1, t2, t3].map (fun x => Value.int .u8 (x.toNat : Int)) from rfl, List.getElem?_map, hx]
    rfl
  have c0 := hc 0 t0 rfl
  have c1 := hc 1 t1 rfl
  have c2 := hc 2 t2 rfl
  have c3 := hc 3 t3 rfl
  rw [Nat.add_zero] at c0
  clear hc hcell
  have i0 := (run_index4 w3 (.int .u8 s0.toNat) (.int .u8 s1.toNat) (.int .u8 s2.toNat) (.int .u8 s3.toNat)).1
  have i1 := (run_index4 w3 (.int .u8 s0.toNat) (.int .u8 s1.toNat) (.int .u8 s2.toNat) (.int .u8 s3.toNat)).2.1
  have i2 := (run_index4 w3 (.int .u8 s0.toNat) (.int .u8 s1.toNat) (.int .u8 s2.toNat) (.int .u8 s3.toNat)).2.2.1
  have i3 := (run_index4 w3 (.int .u8 s0.toNat) (.int .u8 s1.toNat) (.int .u8 s2.toNat) (.int .u8 s3.toNat)).2.2.2
  refine wp_loop_rounds 5 ?_
  iterate 4 (any_goals (rw [rounds_succ]; go_wp2_with fail))
  · go_ret2
    exact ver_no HS.out (fun h => byte_ne (a := t0) (b := s0) (by assumption) h.1) hb3
  · go_ret2
    exact ver_no HS.out (fun h => byte_ne (a := t1) (b := s1) (by assumption) h.2.1) hb3
  · go_ret2
    exact ver_no HS.out (fun h => byte_ne (a := t2) (b := s2) (by assumption) h.2.2.1) hb3
  · go_ret2
    exact ver_no HS.out (fun h => byte_ne (a := t3) (b := s3) (by assumption) h.2.2.2) hb3
  · have e0 : t0 = s0 := byte_eq (by assumption)
    have e1 : t1 = s1 := byte_eq (by assumption)
    have e2 : t2 = s2 := byte_eq (by assumption)
    have e3 : t3 = s3 := byte_eq (by assumption)
    have HE := hide (show t0 = s0 ∧ t1 = s1 ∧ t2 = s2 ∧ t3 = s3 from ⟨e0, e1, e2, e3⟩)
    clear e0 e1 e2 e3 i0 i1 i2 i3 c0 c1 c2 c3
    obtain ⟨i0, hi, hz0, hz1, hz2⟩ := info_parts info_u8
    obtain ⟨Z, hZ⟩ : ∃ Z, Z = (madeCells (Value.int .u8 0).cells (p.length * 1)).toList := ⟨_, rfl⟩
    have hZl : Z.length = p.length := by rw [hZ, zeros_len]
    have HZ := hide hZ
    have HZl := hide hZl
    clear hZ hZl
    have HL := hide (bytes_len p)
    rw [rounds_succ]
    go_wp2_with (first
      | (at_make; refine wpList_make_full _ rfl (.tmp 33) (.tmp 33) _ rfl w.heap.size 5 i0 _ 1 Try.underlying22 hi hz0 hz1 .i64 .i64 _ _ p.length rfl rfl (by omega) (by omega) (by rw [hz2]; omega) (by unfold maxLen; omega) hb3.size ?_; intro w4 hown1 hgrow1; have hb4 : Below w.heap.size w w4 := hb3.grown hgrow1 hb3.size (by intro k hk; cases hk); have hB1 := hide (blk_of_own (by rw [← HZ.out] at hown1; exact hown1)).1; clear hown1 hgrow1)
      | (with_reducible refine wpList_copy_splice rfl (.tmp 35) (.tmp 36) _ _ rfl 5 Try.underlying22 size_u8 (some ⟨w3.heap.size, 0, none⟩) (some ⟨b, o, none⟩) p.length p.length (p.length + 4) cap rfl rfl w3.heap.size 0 Z _ hB1.out.out (bytes p) (by rw [HL.out]; simp) (fun hp => ⟨rfl, (hP.below hb4).src hp⟩) (by rw [HL.out, HZl.out]; omega) (bytes_one p) w.heap.size w hb4 hb3.size ?_; intro w5 HG5 hb5))
    go_ret2
    have hg : Blk w5 w3.heap.size 5 (bytes p).toArray := by
      have := HG5.out
      unfold splice at this
      rw [List.take_zero, List.nil_append, List.drop_eq_nil_of_le (by rw [HL.out, HZl.out]; omega), List.append_nil] at this
      exact this
    exact ver_yes HS.out HE.out hb5 hg hb3.size hl

theorem split4 (l : List UInt8) (h : 4 ≤ l.length) : ∃ p t0 t1 t2 t3, l = p ++ [t0, t1, t2, t3] := by
  have h4 : (l.drop (l.length - 4)).length = 4 := by simp; omega
  match hd : l.drop (l.length - 4), h4 with
  | [t0, t1, t2, t3], _ => exact ⟨l.take (l.length - 4), t0, t1, t2, t3, by rw [← hd, List.take_append_drop]⟩

theorem verify_any (A : Option Addr) (n cap : Nat) (l : List UInt8) (w : World) (hn : n = l.length) (hl : l.length ≤ 1000000) (hcap : n ≤ cap) (hA : Lie w w.heap.size A (bytes l)) :
    Calls Try.prog 70 #[.slice A n cap] w (VerGot w l) := by
  subst hn
  by_cases h : l.length < 4
  · refine (verify_short A l.length cap w h).mono fun e w' ⟨he, hw⟩ => ?_
    subst he hw
    unfold VerGot Ent.verify
    rw [if_pos h]
    exact ⟨none, 0, rfl, World.ownsRow_nil _ _ _ _, Below.refl _ _⟩
  · obtain ⟨p, t0, t1, t2, t3, rfl⟩ := split4 l (by omega)
    have e : (p ++ [t0, t1, t2, t3]).length = p.length + 4 := by simp
    rw [e] at hl hcap ⊢
    exact verify_long A cap p t0 t1 t2 t3 w (by omega) hcap hA
end Go.Proofs.Ytjbdfmniiiaakaa
