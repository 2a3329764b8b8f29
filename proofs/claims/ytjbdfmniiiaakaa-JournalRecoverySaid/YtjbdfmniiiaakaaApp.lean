/- The program's Append returns the sealed string, for byte strings of at most 1000000 bytes. -/
import Derived.Test.YtjbdfmniiiaakaaSum
import Derived.Deep.RegionLaw
namespace Go.Proofs.Ytjbdfmniiiaakaa
set_option linter.unusedVariables false
open Go.RowKit

theorem info_u8 : (Try.prog.info? 5).map (fun i => (i.zero, i.size, i.bytes)) = some (some (.int .u8 0), 1, 1) := by kernel_rfl
theorem size_u8 : (Try.prog.info? 5).map (·.size) = some 1 := by kernel_rfl

theorem zeros_len (n : Nat) : (madeCells (Value.int .u8 0).cells (n * 1)).toList.length = n := by simp [size_madeCells]

set_option maxRecDepth 100000 in
set_option maxHeartbeats 800000 in
theorem append_any (A : Option Addr) (n cap : Nat) (l : List UInt8) (w : World) (hn : n = l.length) (hl : l.length ≤ 1000000) (hA : Lie w w.heap.size A (bytes l)) :
    Calls Try.prog 63 #[.slice A n cap] w fun e w' => ∃ g, e = .returned (.slice (some ⟨g, 0, none⟩) (l.length + 4) (l.length + 4)) ∧
      w'.ownsRow w.heap.size 5 1 (.slice (some ⟨g, 0, none⟩) (l.length + 4) (l.length + 4)) (l.length + 4) (bytes (Ent.sealed l)) ∧ Below w.heap.size w w' := by
  subst hn
  obtain ⟨s0, s1, s2, s3, hs⟩ := tail4_four (Crc.sum l)
  have HS := hide hs
  clear hs
  obtain ⟨i0, hi, hz0, hz1, hz2⟩ := info_parts info_u8
  obtain ⟨Z, hZ⟩ : ∃ Z, Z = (madeCells (Value.int .u8 0).cells ((l.length + 4) * 1)).toList := ⟨_, rfl⟩
  have hZl : Z.length = l.length + 4 := by rw [hZ, zeros_len]
  have HZ := hide hZ
  have HZl := hide hZl
  clear hZ hZl
  have HL := hide (bytes_len l)
  go_enter Try.func63, Try.ntmps63
  go_wp2_with (first
    | (at_make; refine wpList_make_full _ rfl (.tmp 7) (.tmp 7) _ rfl w.heap.size 5 i0 _ 1 Try.underlying22 hi hz0 hz1 .i64 .i64 _ _ (l.length + 4) rfl rfl (by omega) (by omega) (by rw [hz2]; omega) (by unfold maxLen; omega) (Nat.le_refl _) ?_; intro w1 hown1 hgrow1; have hb1 : Below w.heap.size w w1 := (Below.refl _ _).grown hgrow1 (Nat.le_refl _) (by intro k hk; cases hk); have hB1 := hide (blk_of_own (by rw [← HZ.out] at hown1; exact hown1)).1; clear hown1 hgrow1)
    | (with_reducible refine wpList_copy_splice rfl (.tmp 9) (.tmp 10) _ _ rfl 5 Try.underlying22 size_u8 (some ⟨w.heap.size, 0, none⟩) A (l.length + 4) (l.length + 4) l.length cap rfl rfl w.heap.size 0 Z _ hB1.out.out (bytes l) (by rw [HL.out]; simp) (fun hp => ⟨rfl, (hA.below hb1).src hp⟩) (by rw [HL.out, HZl.out]; omega) (bytes_one l) w.heap.size w hb1 (Nat.le_refl _) ?_; intro w2 HG2 hb2)
    | (go_at_call 74; refine (crc_any A _ cap l _ rfl (by omega) ((hA.below hb2).more hb2.size)).mono ?_; rintro e w3 ⟨rfl, hb3⟩)
    | (go_at_call 73; refine (seal_any (Crc.sum l) _ (Crc.sum_lt l) s0 s1 s2 s3 HS.out).mono ?_; rintro e w4 ⟨rfl, hb4⟩)
    )
  have hl2 : w.heap.size < w2.heap.size := Blk.lt HG2.out
  have hb24 : Below w.heap.size w w4 := (hb2.trans (hb3.mono hb2.size)).trans (hb4.mono (Nat.le_trans hb2.size hb3.size))
  have hG4 : Blk w4 w.heap.size 5 (splice Z 0 (bytes l)).toArray := ((show Blk w2 _ _ _ from HG2.out).below hb3 hl2).below hb4 (Nat.lt_of_lt_of_le hl2 hb3.size)
  have hb5 : Below w.heap.size w (w4.alloc (.cells (bytes [s0, s1, s2, s3]).toArray 109)) := hb24.alloc hb24.size _
  have hG5 := hG4.alloc (.cells (bytes [s0, s1, s2, s3]).toArray 109)
  have hS5 := Blk.new w4 109 (bytes [s0, s1, s2, s3]).toArray
  have HF : Hid (splice (splice Z 0 (bytes l)) l.length (bytes [s0, s1, s2, s3]) = bytes (Ent.sealed l)) := by
    show _ = _
    unfold Ent.sealed
    rw [HS.out, bytes_append]
    unfold splice
    have e1 : (bytes l ++ Z.drop (0 + (bytes l).length)).take l.length = bytes l := by rw [List.take_append_of_le_length (by rw [HL.out]; exact Nat.le_refl _), List.take_of_length_le (by rw [HL.out]; exact Nat.le_refl _)]
    have e2 : (bytes l ++ Z.drop (0 + (bytes l).length)).drop (l.length + (bytes [s0, s1, s2, s3]).length) = [] := by
      apply List.drop_eq_nil_of_le
      simp [HZl.out, bytes]
    simp only [List.take_zero, List.nil_append]
    rw [e1, e2, List.append_nil]
  have HN : Hid ((Ent.sealed l).length = l.length + 4) := Ent.sealed_len l
  have HC : Hid ((splice Z 0 (bytes l)).length = l.length + 4) := by
    show _ = _
    rw [length_splice _ _ _ (by rw [HL.out, HZl.out]; omega), HZl.out]
  have HG5 := hide hG5
  have HS5 := hide hS5
  change Code.wp _ _ _ _ (w4.alloc (.cells (bytes [s0, s1, s2, s3]).toArray 109))
  have hw4 : w4.heap.size + 1 = (w4.alloc (.cells (bytes [s0, s1, s2, s3]).toArray 109)).heap.size := by simp
  have HW4 := hide hw4
  clear hw4 hG5 hS5 hG4
  generalize w4.alloc (.cells (bytes [s0, s1, s2, s3]).toArray 109) = w5 at *
  have hle : (l.length : Int) ≤ (l.length : Int) + 4 := by omega
  go_region_law (refine step_copy_splice rfl (.tmp 18) (.tmp 19) _ _ rfl 5 Try.underlying22 size_u8 (some ⟨w.heap.size, l.length, none⟩) (some ⟨w4.heap.size, 0, none⟩) 4 4 4 4 (by simp [Act.eval, Act.put]) (by simp [Act.eval, Act.put]) w.heap.size l.length (splice Z 0 (bytes l)) _ HG5.out.out (bytes [s0, s1, s2, s3]) rfl (fun _ => ⟨rfl, _, rfl, fun j v hj => by rw [Addr.add_lit, Nat.zero_add]; exact (HS5.out.cell j).trans (by simpa using hj)⟩) (by rw [HC.out]; simp [bytes]) (bytes_one _) w.heap.size w hb5.drew (Nat.le_refl _) ?_; intro w6 HG6 hb6)
  go_wp2_with fail
  go_ret
  have hG6 : Blk w6 w.heap.size 5 (bytes (Ent.sealed l)).toArray := by rw [← HF.out]; exact HG6.out
  exact ⟨w.heap.size, rfl, own_of_blk hG6 (Nat.le_refl _) (by rw [bytes_len, HN.out]) (by unfold maxLen; omega), hb6⟩
end Go.Proofs.Ytjbdfmniiiaakaa
