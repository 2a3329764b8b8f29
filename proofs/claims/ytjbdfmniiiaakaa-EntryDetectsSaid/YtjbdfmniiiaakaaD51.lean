/- The walk of the law EntryDetects, for every input. -/
import Derived.Test.YtjbdfmniiiaakaaL51
import Derived.Test.YtjbdfmniiiaakaaFlip
import Derived.Deep.RegionHeld3
namespace Go.Proofs.Ytjbdfmniiiaakaa
set_option linter.unusedVariables false
open Go.RowKit
open Ent (E)

/-- the bytes ahead of the text. -/
def pre (k t n : Nat) : List UInt8 := Bin.enc k ++ (Bin.enc t ++ Bin.enc n)
theorem body_pre (k t : Nat) (l : List UInt8) : Ent.body ⟨k, t, ⟨l.toArray⟩⟩ = pre k t l.length ++ l := by
  simp [Ent.body, pre, Bin.encB]
theorem encE_pre (k t : Nat) (l : List UInt8) : Ent.encE ⟨k, t, ⟨l.toArray⟩⟩ = (pre k t l.length ++ l) ++ Ent.tail4 (Crc.sum (pre k t l.length ++ l)) := by
  rw [Ent.encE, Ent.sealed, body_pre]
theorem num_pre (H l X : List UInt8) (at_ pat : Nat) (h : Crc.num X = Crc.num l ^^^ 2 ^ at_ * pat) : Crc.num (H ++ X) = Crc.num (H ++ l) ^^^ 2 ^ (8 * H.length + at_) * pat := by
  rw [Crc.num_append, Crc.num_append, Crc.add_xor _ _ _ (Crc.num_lt H), Crc.add_xor _ _ _ (Crc.num_lt H), h, Crc.mul_xor, Nat.pow_add, Nat.mul_assoc, Nat.xor_assoc]
theorem detect_law (k t : Nat) (l X : List UInt8) (at_ pat : Nat) (hc : Ent.check ⟨k, t, ⟨l.toArray⟩⟩ = 0) (hp : pat < 4294967296) (h0 : pat ≠ 0) (hX : X.length = l.length) (hn : Crc.num X = Crc.num l ^^^ 2 ^ at_ * pat) :
    Ent.dE ((pre k t l.length ++ X) ++ Ent.tail4 (Crc.sum (pre k t l.length ++ l))) 0 = ⟨Ent.E0, 0, 38⟩ := by
  have hc' : Ent.check ⟨k, t, ⟨X.toArray⟩⟩ = 0 := by
    have e : (⟨X.toArray⟩ : ByteArray).size = (⟨l.toArray⟩ : ByteArray).size := by simp [ByteArray.size, hX]
    unfold Ent.check at hc ⊢
    simp only [e]
    exact hc
  have hb := body_pre k t X
  rw [hX] at hb
  refine Ent.dE_wrong _ 0 ⟨k, t, ⟨X.toArray⟩⟩ (Ent.tail4 (Crc.sum (pre k t l.length ++ l))) [] (by simp) (by rw [hb]; simp) rfl (fun h => ?_) hc'
  rw [hb] at h
  have := Ent.tail4_inj _ _ (Crc.sum_lt _) (Crc.sum_lt _) h
  have hl : (pre k t l.length ++ X).length = (pre k t l.length ++ l).length := by simp [hX]
  have hn' := num_pre (pre k t l.length) l X at_ pat hn
  exact Crc.sum_ne _ _ hl.symm pat _ hp h0 (Crc.burst_in _ _ hl pat _ h0 hn') hn' this.symm
theorem lie_from {w : World} {B b o : Nat} {l : List UInt8} (h : Lie w B (some ⟨b, o, none⟩) (bytes l)) (k : Nat) : Lie w B (some ⟨b, o + k, none⟩) (bytes (l.drop k)) := fun hp => by
  obtain ⟨b', o', h1, h2, h3⟩ := h (by simp only [bytes_len, List.length_drop] at hp ⊢; omega)
  simp only [Option.some.injEq, Addr.mk.injEq, and_true] at h1
  obtain ⟨rfl, rfl⟩ := h1
  refine ⟨b, o + k, rfl, h2, fun j u hu => ?_⟩
  rw [bytes_drop, List.getElem?_drop] at hu
  rw [Nat.add_assoc]
  exact h3 _ u hu
theorem FlipSt.bytes_ {l : List UInt8} {at_ pat C : Nat} {cs : Array Value} (h : FlipSt l at_ pat 32 C cs) (hp : pat < 4294967296) :
    cs.size = C ∧ l.length ≤ C ∧ ∃ X : List UInt8, X.length = l.length ∧ cs.toList.take l.length = bytes X ∧ Crc.num X = Crc.num l ^^^ 2 ^ at_ * pat := by
  obtain ⟨h1, h2, X, h3, h4, h5⟩ := h
  rw [Nat.mod_eq_of_lt (by omega)] at h5
  exact ⟨h1, h2, X, h3, h4, h5⟩
theorem lie_rowM {w : World} {g : Nat} {t : TypeId} {cs : Array Value} {n : Nat} {X : List UInt8} (h : RowM w g t cs) (he : cs.toList.take n = bytes X) : Lie w w.heap.size (some ⟨g, 0, none⟩) (bytes X) := fun _ =>
  ⟨g, 0, rfl, h.lt, fun j u hu => by
    rw [Nat.zero_add, h.cell]
    rw [← he, List.getElem?_take] at hu
    split at hu
    · simpa using hu
    · cases hu⟩


set_option maxRecDepth 100000 in
set_option maxHeartbeats 3200000 in
theorem detects_yes (k t : Nat) (l : List UInt8) (at_ pat : Nat) (w : World) (hl : l.length ≤ 4096) (hat : at_ ≤ 32768) (hp : pat < 4294967296) (h0 : 0 < pat) (hc : Ent.check ⟨k, t, ⟨l.toArray⟩⟩ = 0) :
    Calls Try.prog 13 #[ev ⟨k, t, ⟨l.toArray⟩⟩, .int .i64 at_, .int .u32 pat] w fun e w' => e = .returned (.bool true) ∧ Below w.heap.size w w' := by
  have hp0 : ((pat : Int) == 0) = false := by simp; omega
  have HC := (fun W => (encode_any ⟨k, t, ⟨l.toArray⟩⟩ W).mono fun _ _ h => gote_ok h hc)
  have hlen : (Ent.encE ⟨k, t, ⟨l.toArray⟩⟩).length = (pre k t l.length).length + l.length + 4 := by rw [encE_pre, List.length_append, List.length_append, Ent.tail4_len]
  have hpl : (pre k t l.length).length ≤ 30 := by
    have n1 := (Bin.enc_len k).2; have n2 := (Bin.enc_len t).2; have n3 := (Bin.enc_len l.length).2
    unfold pre; rw [List.length_append, List.length_append]; omega
  have hdet := hide (fun X hX hn => detect_law k t l X at_ pat hc hp (by omega) hX hn)
  rw [hlen] at HC
  rw [encE_pre] at HC
  generalize hT : Ent.tail4 (Crc.sum (pre k t l.length ++ l)) = T at HC hdet
  have hT4 : Hid (T.length = 4) := hide (by rw [← hT]; rfl)
  clear hT hlen hc
  generalize pre k t l.length = H at HC hdet hpl
  obtain ⟨h, hH⟩ : ∃ h, Hid (h = H.length) := ⟨_, hide rfl⟩
  rw [← hH.out] at HC hpl
  obtain ⟨L, hL⟩ : ∃ L, Hid (L = h + l.length + 4) := ⟨_, hide rfl⟩
  rw [← hL.out] at HC
  have hK := hide (Kp.new w 36 #[.int .i64 k, .int .i64 t, .string ⟨l.toArray⟩])
  unfold ev at *
  simp only at HC
  have hL1 : h + l.length + 4 ≤ L := Nat.le_of_eq hL.out.symm
  have hL2 : L ≤ h + l.length + 4 := Nat.le_of_eq hL.out
  have HC' := hide HC
  clear HC
  obtain ⟨i0, hi, hz0, hz1, hz2⟩ := info_parts info_b
  go_enter Try.func13, Try.ntmps13
  go_upto_region 1 with fail
  generalize w.alloc (.cells #[.int .i64 k, .int .i64 t, .string ⟨l.toArray⟩] 36) = wa at *
  obtain ⟨c0, c1, c2⟩ := hK.out.cells
  go_upto_region 4 with fail
  refine Calls.mono (HC'.out _) ?_
  rintro e w1 ⟨A1, d1, rfl, o1, b1⟩
  have K1 := hide (hK.out.next b1)
  obtain ⟨g, rfl, -, -, hd1, hm1⟩ := own_some o1 (by omega)
  have L1 := hide (Lie.of_own o1)
  clear b1 c0 c1 c2 hK o1 HC'
  obtain ⟨c0, c1, c2⟩ := K1.out.cells
  obtain ⟨C, W1, HW, hr⟩ := str_bytes (P := Try.prog) w1 9 22 5 l Try.underlying9 Try.underlying22 Try.underlying5
  go_wp2_with fail
  obtain ⟨q1, q2, q3⟩ := HW.out
  refine Calls.mono (flip_any _ _ _ l at_ pat _ rfl (by omega) hp q2) ?_
  rintro e w2 ⟨hb2, hf⟩
  have hb2 := chain q1 hb2
  have K2 := hide (K1.out.next hb2)
  have L2 := hide (L1.out.on hb2)
  clear hr c0 c1 c2 HW q1 q2 K1 L1 hb2
  rcases hf with ⟨rfl, -⟩ | ⟨gf, Cf, cs, rfl, hgf, hrow, hst⟩
  · go_wp2_with (go_at_call 41; refine (example51_any _).mono ?_; rintro e w6 ⟨rfl, hb6⟩)
    go_ret
    exact ⟨rfl, chain K2.out.1 hb6⟩
  obtain ⟨r1, r2, X, r3, r4, r5⟩ := hst.bytes_ hp
  have LX := hide (lie_rowM hrow r4)
  have HD := hide (hdet.out X r3 r5)
  have HX := hide r3
  clear hst hdet r1 r3 r4 r5 hrow
  obtain ⟨c0, c1, c2⟩ := K2.out.cells
  have e1 : (0 : Int) ≤ (h : Int) := by omega
  have e2 : (h : Int) ≤ (L : Int) := by omega
  have e3 : (h : Int) ≤ (d1 : Int) := by omega
  have e4 : (0 : Int) ≤ (L : Int) - 4 := by omega
  have e5 : (L : Int) - 4 ≤ (L : Int) := by omega
  have e6 : (L : Int) - 4 ≤ (d1 : Int) := by omega
  have e7 : (L : Int) ≤ (d1 : Int) := by omega
  have hsub : (L : Int) - 4 = (h : Int) + (l.length : Int) := by omega
  go_upto_region 11 with fail
  have hm1' : d1 ≤ 9223372036854775807 := hm1
  have B0 := hide (K2.out.1)
  have LH := hide ((lie_take L2.out h).drew)
  have eH : (H ++ l ++ T).take h = H := by rw [hH.out, List.append_assoc, List.take_left]
  have eT : (H ++ l ++ T).drop (h + l.length) = T := by rw [hH.out, ← List.length_append, List.drop_left]
  rw [eH] at LH
  have LT := hide (lie_from L2.out (h + l.length))
  rw [eT, Nat.zero_add] at LT
  clear eH eT
  have bH := hide (bytes_len H)
  have bX := hide (bytes_len X)
  have bT := hide (bytes_len T)
  have BD : Hid (Below w2.heap.size w2 w2.drew) := hide ((Below.refl _ _).drew)
  have n63 : Hid (maxLen = 9223372036854775807) := hide rfl
  have hsl : ∀ W : World, (Instr.slice 22 (.slice (some ⟨g, 0, none⟩) L d1) (some (.int .i64 ((h : Int) + (l.length : Int)))) none none).run Try.prog W = .ok (.slice (some ⟨g, h + l.length, none⟩) 4 (d1 - (h + l.length))) W := by
    intro W
    have s2 : ((h : Int) + (l.length : Int)).toNat = h + l.length := by omega
    have s3 : (0 : Int) ≤ (h : Int) + (l.length : Int) := by omega
    have s4 : (h : Int) + (l.length : Int) ≤ (L : Int) := by omega
    have s6 : ¬ d1 = h + l.length := by omega
    have s7 : L - (h + l.length) = 4 := by omega
    simp [Instr.slice, Instr.sliceBounds, run_underlying Try.underlying22, go_sem, s2, s3, s4, s6, s7]
  have LX' := hide LX.out.drew
  have s1 : IntKind.i64.wrap ((L : Int) - 4) = (h : Int) + (l.length : Int) := by rw [IntWalk.i64_in _ (by omega)]; exact hsub
  have s1' : IntKind.i64.wrap ((h : Int) + (l.length : Int)) = (h : Int) + (l.length : Int) := IntWalk.i64_in _ (by omega)
  go_region_held3 (fun w' => True) (trivial)
    (first
    | (refine step_app (by rfl) (.tmp 63) (.tmp 66) _ (by rfl) w2.heap.size 5 i0 _ 1 1 Try.underlying22 hi hz0 hz1 hz2 rfl (by omega) none 0 0 [] (by rfl) own_nil w2.heap.size (some ⟨g, 0, none⟩) h d1 (bytes H) (by rfl) (by rw [bH.out, ← hH.out]; omega) LH.out (bytes_one _) (by omega) (by rw [n63.out]; omega) (Nat.le_refl _) w2 BD.out ?_; intro A3 c3 w3 HA3 hb3)
    | (refine step_app (by rfl) (.tmp 67) (.tmp 68) _ (by rfl) w2.heap.size 5 i0 _ 1 1 Try.underlying22 hi hz0 hz1 hz2 rfl (by omega) A3 (0 + h) c3 ([] ++ bytes H) (by rfl) HA3.out.own w2.heap.size (some ⟨gf, 0, none⟩) l.length Cf (bytes X) (by rfl) (by rw [bX.out, HX.out]; omega) (LX.out.below hb3) (bytes_one _) (by omega) (by rw [n63.out]; omega) hb3.size w2 hb3 ?_; intro A4 c4 w4 HA4 hb4)
    | (refine step_app (by rfl) (.tmp 69) (.tmp 74) _ (by rfl) w2.heap.size 5 i0 _ 1 1 Try.underlying22 hi hz0 hz1 hz2 rfl (by omega) A4 (0 + h + l.length) c4 ([] ++ bytes H ++ bytes X) (by rfl) HA4.out.own w2.heap.size (some ⟨g, h + l.length, none⟩) 4 (d1 - (h + l.length)) (bytes T) (by rfl) (by rw [bT.out, hT4.out]) (LT.out.below hb4) (bytes_one _) (by omega) (by rw [n63.out]; omega) hb4.size w2 hb4 ?_; intro A5 c5 w5 HA5 hb5))
  clear s1 s1' hsl hsub
  have o5 := HA5.out.own
  rw [List.nil_append, ← bytes_append, ← bytes_append, Nat.zero_add] at o5
  have L5 := hide (Lie.of_own o5)
  have d5 := own_le o5
  have hN : Hid (h + l.length + 4 = (H ++ X ++ T).length) := hide (by rw [List.length_append, List.length_append, hT4.out, HX.out, ← hH.out])
  have hN' : (H ++ X ++ T).length ≤ 5000 := by rw [← hN.out]; omega
  clear o5 HA3 HA4 HA5 hb3 hb4 LH LT LX LX'
  go_wp2_with fail
  refine Calls.mono (decode_any A5 _ c5 (H ++ X ++ T) 0 _ hN.out (by omega) d5 L5.out) ?_
  rw [HD.out]
  rintro e w6 ⟨rfl, b6⟩
  have B6 := hide (chain B0.out (chain hb5 b6))
  unfold ev Ent.E0
  go_wp2_with fail
  refine Calls.mono (example51_any _) ?_
  rintro e w7 ⟨rfl, b7⟩
  go_wp2_with fail
  go_ret
  exact ⟨rfl, chain B6.out (chain (below_new _ _) b7)⟩

set_option maxRecDepth 100000 in
set_option maxHeartbeats 3200000 in
theorem detects_no (x : E) (at_ pat : Nat) (w : World) (hl : x.s.size ≤ 4096) (hat : at_ ≤ 32768) (hp : pat < 4294967296) (h0 : 0 < pat) (hc : 0 < Ent.check x) :
    Calls Try.prog 13 #[ev x, .int .i64 at_, .int .u32 pat] w fun e w' => e = .returned (.bool true) ∧ Below w.heap.size w w' := by
  have hp0 : ((pat : Int) == 0) = false := by simp; omega
  have HC := (fun W => (encode_any x W).mono fun _ _ h => gote_err h hc)
  have hne : ((Ent.check x : Int) != 0) = true := by simp; omega
  generalize Ent.check x = n at HC hne
  obtain ⟨k, t, s⟩ := x
  obtain ⟨l, rfl⟩ : ∃ l : List UInt8, s = ⟨l.toArray⟩ := ⟨s.data.toList, by simp⟩
  have hl' : l.length ≤ 4096 := by simpa [ByteArray.size] using hl
  unfold ev at *
  simp only at HC
  have HC' := hide HC
  clear hl hc HC
  have hK := hide (Kp.new w 36 #[.int .i64 k, .int .i64 t, .string ⟨l.toArray⟩])
  go_enter Try.func13, Try.ntmps13
  go_upto_region 1 with fail
  generalize w.alloc (.cells #[.int .i64 k, .int .i64 t, .string ⟨l.toArray⟩] 36) = wa at *
  obtain ⟨c0, c1, c2⟩ := hK.out.cells
  go_upto_region 4 with fail
  refine Calls.mono (HC'.out _) ?_
  rintro e w1 ⟨rfl, b1⟩
  have K1 := hide (hK.out.next b1)
  clear b1 c0 c1 c2 hK HC'
  obtain ⟨c0, c1, c2⟩ := K1.out.cells
  obtain ⟨C, W1, HW, hr⟩ := str_bytes (P := Try.prog) w1 9 22 5 l Try.underlying9 Try.underlying22 Try.underlying5
  go_wp2_with fail
  obtain ⟨q1, q2, q3⟩ := HW.out
  refine Calls.mono (flip_any _ _ _ l at_ pat _ rfl (by omega) hp q2) ?_
  rintro e w2 ⟨hb2, hf⟩
  have hb2 := chain q1 hb2
  have K2 := hide (K1.out.next hb2)
  clear hr c0 c1 c2 HW q1 q2 K1 hb2
  rcases hf with ⟨rfl, -⟩ | ⟨gf, Cf, cs, rfl, hgf, hrow, hst⟩
  · go_wp2_with (go_at_call 41; refine (example51_any _).mono ?_; rintro e w6 ⟨rfl, hb6⟩)
    go_ret
    exact ⟨rfl, chain K2.out.1 hb6⟩
  · clear hst hrow
    go_wp2_with (go_at_call 41; refine (example51_any _).mono ?_; rintro e w6 ⟨rfl, hb6⟩)
    go_ret
    exact ⟨rfl, chain K2.out.1 hb6⟩

set_option maxRecDepth 100000 in
set_option maxHeartbeats 3200000 in
theorem detects_out (x : E) (a1 : Int) (pat : Nat) (w : World) (hs : x.s.size ≤ maxLen) (hp : pat < 4294967296) (h : 4096 < x.s.size ∨ a1 < 0 ∨ 32768 < a1 ∨ pat = 0) :
    Calls Try.prog 13 #[ev x, .int .i64 a1, .int .u32 pat] w fun e w' => e = .returned (.bool true) ∧ Below w.heap.size w w' := by
  obtain ⟨k, t, s⟩ := x
  unfold maxLen at hs
  unfold ev
  simp only at hs h ⊢
  by_cases h1 : 4096 < s.size
  · clear h
    go_enter Try.func13, Try.ntmps13
    go_wp2_with (go_at_call 41; refine Calls.mono (example51_any _) ?_; rintro e w3 ⟨rfl, hb3⟩)
    go_ret
    exact ⟨rfl, chain (below_new _ _) hb3⟩
  by_cases h2 : a1 < 0
  · clear h
    go_enter Try.func13, Try.ntmps13
    go_wp2_with (go_at_call 41; refine Calls.mono (example51_any _) ?_; rintro e w3 ⟨rfl, hb3⟩)
    go_ret
    exact ⟨rfl, chain (below_new _ _) hb3⟩
  by_cases h3 : 32768 < a1
  · clear h
    go_enter Try.func13, Try.ntmps13
    go_wp2_with (go_at_call 41; refine Calls.mono (example51_any _) ?_; rintro e w3 ⟨rfl, hb3⟩)
    go_ret
    exact ⟨rfl, chain (below_new _ _) hb3⟩
  · obtain rfl : pat = 0 := by omega
    clear h
    go_enter Try.func13, Try.ntmps13
    go_wp2_with (go_at_call 41; refine Calls.mono (example51_any _) ?_; rintro e w3 ⟨rfl, hb3⟩)
    go_ret
    exact ⟨rfl, chain (below_new _ _) hb3⟩

theorem walk_EntryDetects (x : E) (a1 a2 : Int) (w : World) (hx : GoodE x) (w1 : (Lit.int .i64 a1).wf = true) (w2 : (Lit.int .u32 a2).wf = true) :
    Calls Try.prog 13 #[ev x, .int .i64 a1, .int .u32 a2] w fun e w' => e = .returned (.bool true) ∧ Below w.heap.size w w' := by
  obtain ⟨pat, rfl, hp⟩ := u32_wf w2
  by_cases h : 4096 < x.s.size ∨ a1 < 0 ∨ 32768 < a1 ∨ pat = 0
  · exact detects_out x a1 pat w hx.2.2 hp h
  · obtain ⟨at_, rfl⟩ : ∃ n : Nat, a1 = (n : Int) := ⟨a1.toNat, by omega⟩
    by_cases hc : Ent.check x = 0
    · obtain ⟨k1, k2, t1, t2, s1⟩ := Ent.check_ok hc
      obtain ⟨k, t, s⟩ := x
      simp only at k1 k2 t1 t2 s1 h
      obtain ⟨k, rfl⟩ : ∃ n : Nat, k = (n : Int) := ⟨k.toNat, by omega⟩
      obtain ⟨t, rfl⟩ : ∃ n : Nat, t = (n : Int) := ⟨t.toNat, by omega⟩
      obtain ⟨l, rfl⟩ : ∃ l : List UInt8, s = ⟨l.toArray⟩ := ⟨s.data.toList, by simp⟩
      have hl : (⟨l.toArray⟩ : ByteArray).size = l.length := by simp [ByteArray.size]
      exact detects_yes k t l at_ pat w (by omega) (by omega) hp (by omega) hc
    · exact detects_no x at_ pat w (by omega) (by omega) hp (by omega) (by omega)
end Go.Proofs.Ytjbdfmniiiaakaa
