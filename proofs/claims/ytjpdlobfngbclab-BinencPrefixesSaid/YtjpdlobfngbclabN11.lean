/- The walk of the law BinencPrefixes, for every input. -/
import Derived.Test.YtjpdlobfngbclabM11
import Derived.Deep.RegionWith
import Derived.Deep.DeepCutAuto
namespace Go.Proofs.Ytjpdlobfngbclab
set_option linter.unusedVariables false
open Go.RowKit

theorem own_cap {w : World} {base e size n c : Nat} {A : Option Addr} {xs : List Value} (h : w.ownsRow base e size (.slice A n c) n xs) : n ≤ c := by
  rcases h.2 with ⟨h1, h2⟩ | ⟨g, cap, cur, hv, hg, hh, hnc, _⟩
  · simp only [Value.slice.injEq] at h1
    omega
  · simp only [Value.slice.injEq] at hv
    omega
/-- what was given, of a list that is not empty. -/
theorem gives_at {w w' : World} {l m : List UInt8} {e : Ending} (h : Gives w l e w') (hl : l = m) (h1 : 1 ≤ m.length) :
    ∃ b o c, e = .returned (.slice (some ⟨b, o, none⟩) m.length c) ∧ m.length ≤ c ∧ Lie w' w'.heap.size (some ⟨b, o, none⟩) (bytes m) ∧ Below w.heap.size w w' := by
  subst hl
  obtain ⟨A, c, rfl, hown, hb⟩ := h
  have hL := Lie.of_own hown
  obtain ⟨b, o, rfl, _, _⟩ := hL (by rw [bytes_len]; omega)
  exact ⟨b, o, c, rfl, own_cap hown, hL, hb⟩
theorem cutI (n : Int) (hn : Fits n) : ∀ i, i < (Bin.encI n).length → Bin.dI ((Bin.encI n).take i) 0 = ⟨0, 0, 4⟩ := fun i hi =>
  Bin.dI_cut ((Bin.encI n).take i) 0 n i (by omega) (by simp) hn hi
theorem cutB (s : List UInt8) (hs : s.length ≤ 1000) : ∀ i, i < (Bin.encB s).length → Bin.dB ((Bin.encB s).take i) 0 (s.length : Int) = ⟨[], 0, 4⟩ := fun i hi =>
  Bin.dB_cut ((Bin.encB s).take i) 0 s s.length i (by omega) (by simp) (by omega) (by omega) hi
theorem cutL (l : List Int) (hl : l.length ≤ 1000) (hf : ∀ x ∈ l, Fits x) : ∀ i, i < (Bin.encL l).length → Bin.dL ((Bin.encL l).take i) 0 (l.length : Int) = ⟨[], 0, 4⟩ := fun i hi =>
  Bin.dL_cut ((Bin.encL l).take i) l 0 i l.length (by omega) (by simp) hf (by omega) (by omega) hi
theorem take_len (E : List UInt8) (k : Nat) (h : k < E.length) : (E.take k).length = k := by rw [List.length_take]; omega
theorem gotb_4 {w w' : World} {g : Bin.Got (List UInt8)} {e : Ending} (h : GotB w g e w') (hg : g = ⟨[], 0, 4⟩) :
    ∃ A c, e = .returned (.tuple #[.slice A 0 c, .int .i64 0, .int .i64 4]) ∧ Below w.heap.size w w' := by
  subst hg
  obtain ⟨A, c, rfl, _, hb⟩ := h
  exact ⟨A, c, rfl, hb⟩
theorem gotl_4 {w w' : World} {g : Bin.Got (List Int)} {e : Ending} (h : GotL w g e w') (hg : g = ⟨[], 0, 4⟩) :
    ∃ A c, e = .returned (.tuple #[.slice A 0 c, .int .i64 0, .int .i64 4]) ∧ Below w.heap.size w w' := by
  subst hg
  obtain ⟨A, c, rfl, _, hb⟩ := h
  exact ⟨A, c, rfl, hb⟩

set_option maxRecDepth 100000 in
set_option maxHeartbeats 3200000 in
theorem prefixes_main (n : Int) (A B : Option Addr) (ca cb : Nat) (s : List UInt8) (l : List Int) (w : World) (hn : Fits n) (hs : s.length ≤ 200) (hl : l.length ≤ 50) (hf : ∀ x ∈ l, Fits x) (hA : Lie w w.heap.size A (bytes s)) (hB : Lie w w.heap.size B (ints l)) :
    Calls Try.prog 10 #[.int .i64 n, .slice A s.length ca, .slice B l.length cb] w fun e w' => e = .returned (.bool true) ∧ Below w.heap.size w w' := by
  have q1 := hide (cutI n hn)
  have q2 := hide (cutB s (by omega))
  have q3 := hide (cutL l (by omega) hf)
  have n1 : 1 ≤ (Bin.encI n).length ∧ (Bin.encI n).length ≤ 10 := Bin.enc_len _
  have n2 : 1 ≤ (Bin.encB s).length ∧ (Bin.encB s).length ≤ 1000 := by
    have := Bin.enc_len s.length
    unfold Bin.encB; rw [List.length_append]; omega
  have n3 : 1 ≤ (Bin.encL l).length ∧ (Bin.encL l).length ≤ 1000 := by
    have := Bin.enc_len l.length
    have := encIs_len l
    unfold Bin.encL; rw [List.length_append]; omega
  have p1 := hide (fun (w1 : World) => putint_any n w1 hn)
  have p2 := hide (fun (w1 : World) (hb : Below w.heap.size w w1) => putbytes_any A _ ca s w1 rfl (by omega) (lie_on hA hb))
  have p3 := hide (fun (w1 : World) (hb : Below w.heap.size w w1) => putints_any B _ cb l w1 rfl (by omega) hf (lie_on hB hb))
  clear hA hB hf hn
  generalize Bin.encI n = E1 at *
  generalize Bin.encB s = E2 at *
  generalize Bin.encL l = E3 at *
  obtain ⟨n1, n1'⟩ := n1
  obtain ⟨n2, n2'⟩ := n2
  obtain ⟨n3, n3'⟩ := n3
  go_enter Try.func10, Try.ntmps10
  go_wp2_with fail
  refine Calls.mono (p1.out _) ?_
  intro e w1 h
  obtain ⟨g1, o1, c1, rfl, hc1, L1, b1⟩ := gives_at h rfl n1
  clear h p1
  go_wp2_with fail
  refine Calls.mono (p2.out _ b1) ?_
  intro e w2 h
  obtain ⟨g2, o2, c2, rfl, hc2, L2, b2⟩ := gives_at h rfl n2
  have L1 := lie_on L1 b2
  have b12 := chain b1 b2
  clear h p2 b1 b2
  go_wp2_with fail
  refine Calls.mono (p3.out _ b12) ?_
  intro e w3 h
  obtain ⟨g3, o3, c3, rfl, hc3, L3, b3⟩ := gives_at h rfl n3
  have L1 := hide (lie_on L1 b3)
  have L2 := hide (lie_on L2 b3)
  have L3 := hide L3
  have b123 := hide (chain b12 b3)
  clear h p3 b12 b3
  go_wp2_with fail
  go_loopw [10] (fun i wr => ∃ k : Nat, k ≤ E1.length ∧ i = .int .i64 k ∧ Below w3.heap.size w3 wr) (fun i _ => E1.length - (intOf i).toNat)
  case atStart => exact ⟨0, by omega, rfl, Below.refl _ _⟩
  case round =>
    obtain ⟨k, hk, rfl, hbw⟩ := hrel
    by_cases hlt : k < E1.length
    · have h1 := int_any (some ⟨g1, o1, none⟩) k c1 (E1.take k) 0 wr (take_len E1 k hlt).symm (by rw [take_len E1 k hlt]; omega) (lie_take (lie_on L1.out hbw) k)
      rw [q1.out k hlt] at h1
      go_wp2_with fail
      refine Calls.mono h1 ?_
      rintro e w4 ⟨rfl, rfl⟩
      go_wp2_with fail
      go_roundw
      case rel => exact ⟨k + 1, by omega, by go_num, hbw⟩
      case measure => simp [intOf]; omega
    · clear q1 hk
      go_wp2_with fail
      go_loopw [14] (fun i wr => ∃ k : Nat, k ≤ E2.length ∧ i = .int .i64 k ∧ Below w3.heap.size w3 wr) (fun i _ => E2.length - (intOf i).toNat)
      case atStart => exact ⟨0, by omega, rfl, hbw⟩
      case round =>
        clear hbw
        rename_i wr2
        obtain ⟨k, hk, rfl, hbw⟩ := hrel
        by_cases hlt : k < E2.length
        · have h1 := bytes_any (some ⟨g2, o2, none⟩) k c2 (E2.take k) 0 s.length _ (take_len E2 k hlt).symm (by rw [take_len E2 k hlt]; omega) (by omega) ⟨by omega, by omega⟩ (lie_take (lie_on L2.out hbw) k)
          go_wp2_with fail
          refine Calls.mono h1 ?_
          intro e w4 h
          obtain ⟨A4, c4, rfl, b4⟩ := gotb_4 h (q2.out k hlt)
          clear h h1
          go_wp2_with fail
          go_roundw
          case rel => exact ⟨k + 1, by omega, by go_num, chain hbw b4⟩
          case measure => simp [intOf]; omega
        · clear q2 hk
          go_wp2_with fail
          go_loopw [18] (fun i wr => ∃ k : Nat, k ≤ E3.length ∧ i = .int .i64 k ∧ Below w3.heap.size w3 wr) (fun i _ => E3.length - (intOf i).toNat)
          case atStart => exact ⟨0, by omega, rfl, hbw⟩
          case round =>
            clear hbw
            obtain ⟨k, hk, rfl, hbw⟩ := hrel
            by_cases hlt : k < E3.length
            · have h1 := ints_any (some ⟨g3, o3, none⟩) k c3 (E3.take k) 0 l.length _ (take_len E3 k hlt).symm (by rw [take_len E3 k hlt]; omega) ⟨by omega, by omega⟩ (lie_take (lie_on L3.out hbw) k)
              go_wp2_with fail
              refine Calls.mono h1 ?_
              intro e w4 h
              obtain ⟨A4, c4, rfl, b4⟩ := gotl_4 h (q3.out k hlt)
              clear h h1
              go_wp2_with fail
              go_roundw
              case rel => exact ⟨k + 1, by omega, by go_num, chain hbw b4⟩
              case measure => simp [intOf]; omega
            · clear q3 hk
              go_wp2_with (go_at_call 22; refine (example11_any _).mono ?_; rintro e w1 ⟨rfl, hb1⟩)
              go_ret
              exact ⟨rfl, chain (chain b123.out hbw) hb1⟩

set_option maxRecDepth 100000 in
set_option maxHeartbeats 800000 in
theorem walk_BinencPrefixes (a0 : Int) (a1 : Option Addr) (len1 cap1 : Nat) (z1 : List Int) (a2 : Option Addr) (len2 cap2 : Nat) (z2 : List Int) (w : World) (w0 : (Lit.int .i64 a0).wf = true) (w1 : IsRow .u8 w a1 len1 cap1 z1) (w2 : IsRow .i64 w a2 len2 cap2 z2) :
    Calls Try.prog 10 #[.int .i64 a0, .slice a1 len1 cap1, .slice a2 len2 cap2] w fun e w' => e = .returned (.bool true) ∧ Below w.heap.size w w' := by
  obtain ⟨s, rfl, _, hA⟩ := row_bytes w1
  obtain ⟨l, rfl, _, hf, hB⟩ := row_ints w2
  have hn := fits_wf w0
  clear w0 w1 w2
  by_cases h1 : 200 < s.length
  · clear hn
    go_enter Try.func10, Try.ntmps10
    go_wp2_with (go_at_call 22; refine (example11_any _).mono ?_; rintro e w1 ⟨rfl, hb1⟩)
    go_ret
    exact ⟨rfl, hb1⟩
  · by_cases h2 : 50 < l.length
    · clear hn
      go_enter Try.func10, Try.ntmps10
      go_wp2_with (go_at_call 22; refine (example11_any _).mono ?_; rintro e w1 ⟨rfl, hb1⟩)
      go_ret
      exact ⟨rfl, hb1⟩
    · exact prefixes_main a0 a1 a2 cap1 cap2 s l w hn (by omega) (by omega) hf hA hB
end Go.Proofs.Ytjpdlobfngbclab
