/- The reference's Encode returns the encoding of a valid entry, and the error of any other, for every entry. -/
import Derived.Test.YtjbdfmniiiaakaaEnc
namespace Go.Proofs.Ytjbdfmniiiaakaa
set_option linter.unusedVariables false
open Go.RowKit

set_option maxRecDepth 100000 in
set_option maxHeartbeats 800000 in
theorem refencode_no (x : Ent.E) (w : World) (hc : 0 < Ent.check x) : Calls Try.prog 43 #[ev x] w (GotE w x) := by
  have HC := fun w => refcheck_any x w
  have HX := hide hc
  generalize hg : Ent.check x = g at HC HX hc
  have HG := hide hg
  clear hg
  have hwa : Below w.heap.size w (w.alloc (.cells #[.int .i64 x.k, .int .i64 x.t, .string x.s] 36)) := (Below.refl _ _).alloc (Nat.le_refl _) _
  have hB := Blk.new w 36 #[.int .i64 x.k, .int .i64 x.t, .string x.s]
  unfold ev at HC ⊢
  have HC := hide HC
  go_enter Try.func43, Try.ntmps43
  go_wp2_with fail
  have hB := hide hB
  have hwa := hide hwa
  generalize w.alloc (.cells #[.int .i64 x.k, .int .i64 x.t, .string x.s] 36) = wa at *
  refine Calls.mono (HC.out _) ?_
  rintro e w1 ⟨rfl, hb1⟩
  obtain ⟨c0, c1, c2⟩ := ev_cells (hB.out.below hb1 hB.out.lt)
  go_wp2_with fail
  refine Calls.mono (HC.out _) ?_
  rintro e w2 ⟨rfl, hb2⟩
  go_wp2_with fail
  go_ret2
  exact gote_no HG.out HX.out (chain hwa.out (chain hb1 hb2))

set_option maxRecDepth 100000 in
set_option maxHeartbeats 1600000 in
theorem refencode_yes (k t : Nat) (l : List UInt8) (w : World) (hc : Ent.check ⟨k, t, ⟨l.toArray⟩⟩ = 0) : Calls Try.prog 43 #[ev ⟨k, t, ⟨l.toArray⟩⟩] w (GotE w ⟨k, t, ⟨l.toArray⟩⟩) := by
  obtain ⟨k1, k2, t1, t2, s1⟩ := Ent.check_ok hc
  simp only at k1 k2 t1 t2 s1
  unfold Ent.maxMoment at t2
  have hsz : l.length ≤ 65536 := by simpa [ByteArray.size] using s1
  have HE : Hid (Ent.encE ⟨k, t, ⟨l.toArray⟩⟩ = Ent.sealed (Bin.enc k ++ Bin.enc t ++ Bin.encB l)) := by
    show _ = _
    simp [Ent.encE, Ent.body]
  have HC := refcheck_any ⟨k, t, ⟨l.toArray⟩⟩ (w.alloc (.cells #[.int .i64 k, .int .i64 t, .string ⟨l.toArray⟩] 36))
  rw [hc] at HC
  have HX := hide hc
  have n1 := (Bin.enc_len k).2
  have n2 := (Bin.enc_len t).2
  have n3 : (Bin.encB l).length ≤ 70000 := by
    have := Bin.enc_len l.length
    unfold Bin.encB; rw [List.length_append]; omega
  obtain ⟨i0, hi, hz0, hz1, hz2⟩ := info_parts info_b
  have hwa : Below w.heap.size w (w.alloc (.cells #[.int .i64 k, .int .i64 t, .string ⟨l.toArray⟩] 36)) := (Below.refl _ _).alloc (Nat.le_refl _) _
  have hB := Blk.new w 36 #[.int .i64 k, .int .i64 t, .string ⟨l.toArray⟩]
  have HL1 := hide (bytes_len (Bin.enc k))
  have HL2 := hide (bytes_len (Bin.enc t))
  have HL3 := hide (bytes_len (Bin.encB l))
  have HLL : Hid ((Bin.enc k ++ Bin.enc t ++ Bin.encB l).length = (Bin.enc k).length + (Bin.enc t).length + (Bin.encB l).length) := by
    show _ = _
    rw [List.length_append, List.length_append]
  clear hc s1
  unfold ev at HC ⊢
  go_enter Try.func43, Try.ntmps43
  go_wp2_with fail
  have hB := hide hB
  have hwa := hide hwa
  generalize w.alloc (.cells #[.int .i64 k, .int .i64 t, .string ⟨l.toArray⟩] 36) = wa at *
  refine Calls.mono HC ?_
  clear HC
  rintro e w1 ⟨rfl, hb1⟩
  obtain ⟨c0, -, -⟩ := ev_cells (hB.out.below hb1 hB.out.lt)
  go_wp2_with fail
  refine Calls.mono (refputuint_any k _ (by omega)) ?_
  rintro e w2 ⟨A2, c2, rfl, o2, hb2⟩
  have hb2 := chain hb1 hb2
  clear c0 hb1
  go_wp2_with (at_builtin; refine wpList_app rfl (.tmp 10) (.tmp 14) _ rfl wa.heap.size 5 i0 _ 1 1 Try.underlying22 hi hz0 hz1 hz2 rfl (by omega) none 0 0 [] rfl own_nil w2.heap.size A2 (Bin.enc k).length c2 (bytes (Bin.enc k)) rfl (by rw [HL1.out]; omega) (Lie.of_own o2) (bytes_one _) (by omega) (by unfold maxLen; omega) hb2.size wa hb2 ?_; intro A8 c8 w8 HA8 hb8; have c1 := (ev_cells (hB.out.below hb8 hB.out.lt)).2.1; clear o2 hb2)
  have o2 := HA8.out.own
  rw [List.nil_append, Nat.zero_add] at o2
  clear HA8
  refine Calls.mono (refputuint_any t _ (by omega)) ?_
  rintro e w3 ⟨A3, c3, rfl, o3, hb3⟩
  have o2 := own_below o2 hb3
  have hb3 := chain hb8 hb3
  clear c1 hb8
  go_wp2_with (at_builtin; refine wpList_app rfl (.tmp 16) (.tmp 20) _ rfl wa.heap.size 5 i0 _ 1 1 Try.underlying22 hi hz0 hz1 hz2 rfl (by omega) A8 (Bin.enc k).length c8 (bytes (Bin.enc k)) rfl o2 w3.heap.size A3 (Bin.enc t).length c3 (bytes (Bin.enc t)) rfl (by rw [HL2.out]; omega) (Lie.of_own o3) (bytes_one _) (by omega) (by unfold maxLen; omega) hb3.size wa hb3 ?_; intro A4 c4 w4 HA4 hb4; obtain ⟨C, w5, HW, hr⟩ := str_bytes (P := Try.prog) w4 9 22 5 l Try.underlying9 Try.underlying22 Try.underlying5; have cc := (ev_cells (hB.out.below hb4 hB.out.lt)).2.2; clear o2 o3 hb3)
  obtain ⟨hb5, L5, _⟩ := HW.out
  have o4 := own_below HA4.out.own hb5
  have hb5 := chain hb4 hb5
  clear hr cc HA4 hb4 HW
  refine Calls.mono (refputbytes_any _ _ C l _ rfl (by omega) L5) ?_
  rintro e w6 ⟨A6, c6, rfl, o6, hb6⟩
  have o4 := own_below o4 hb6
  have hb6 := chain hb5 hb6
  clear L5 hb5
  go_wp2_with (at_builtin; refine wpList_app rfl (.tmp 22) (.tmp 26) _ rfl wa.heap.size 5 i0 _ 1 1 Try.underlying22 hi hz0 hz1 hz2 rfl (by omega) A4 ((Bin.enc k).length + (Bin.enc t).length) c4 (bytes (Bin.enc k) ++ bytes (Bin.enc t)) rfl o4 w6.heap.size A6 (Bin.encB l).length c6 (bytes (Bin.encB l)) rfl (by rw [HL3.out]; omega) (Lie.of_own o6) (bytes_one _) (by omega) (by unfold maxLen; omega) hb6.size wa hb6 ?_; intro A7 c7 w7 HA7 hb7; clear o4 o6 hb6)
  have o7 := HA7.out.own
  rw [← bytes_append, ← bytes_append] at o7
  clear HA7
  generalize Bin.enc k ++ Bin.enc t ++ Bin.encB l = M at o7 HE HLL
  refine Calls.mono (refappend_any A7 _ c7 M _ HLL.out.symm (by rw [HLL.out]; omega) (Lie.of_own o7)) ?_
  rintro e w8 ⟨g8, c9, rfl, o8, hb8⟩
  clear o7
  go_wp2_with fail
  go_ret2
  exact gote_yes HX.out HE.out (Ent.sealed_len _) (chain hwa.out (chain hb7 hb8)) (o8.mono (Nat.le_trans hwa.out.size hb7.size))

theorem refencode_any (x : Ent.E) (w : World) : Calls Try.prog 43 #[ev x] w (GotE w x) := by
  by_cases hc : Ent.check x = 0
  · obtain ⟨k1, k2, t1, t2, s1⟩ := Ent.check_ok hc
    obtain ⟨k, t, s⟩ := x
    simp only at k1 k2 t1 t2 s1
    obtain ⟨k, rfl⟩ : ∃ n : Nat, k = (n : Int) := ⟨k.toNat, by omega⟩
    obtain ⟨t, rfl⟩ : ∃ n : Nat, t = (n : Int) := ⟨t.toNat, by omega⟩
    obtain ⟨l, rfl⟩ : ∃ l : List UInt8, s = ⟨l.toArray⟩ := ⟨s.data.toList, by simp⟩
    exact refencode_yes k t l w hc
  · exact refencode_no x w (by omega)
end Go.Proofs.Ytjbdfmniiiaakaa
