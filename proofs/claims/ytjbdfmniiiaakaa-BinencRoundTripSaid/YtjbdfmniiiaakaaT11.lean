/- The walk of the law BinencRoundTrip, for every input. -/
import Derived.Test.YtjbdfmniiiaakaaItk
import Derived.Test.YtjbdfmniiiaakaaOpenI
namespace Go.Proofs.Ytjbdfmniiiaakaa
set_option linter.unusedVariables false
open Go.RowKit

theorem own_cap {w : World} {base e size n c : Nat} {A : Option Addr} {xs : List Value} (h : w.ownsRow base e size (.slice A n c) n xs) : n ≤ c := by
  rcases h.2 with ⟨h1, h2⟩ | ⟨g, cap, cur, hv, hg, hh, h1, h2, _⟩
  · omega
  · simp only [Value.slice.injEq] at hv
    obtain ⟨-, -, rfl⟩ := hv
    exact h1
theorem GoodI.on {w w' : World} {x : It} (h : GoodI w w.heap.size x) (hb : Below w.heap.size w w') : GoodI w' w'.heap.size x := by
  obtain ⟨h1, h2, h3, h4, h5, h6, h7⟩ := h
  exact ⟨h1, h2, h3, h4.on hb, h5, h6, h7.on hb⟩
/-- an item that the law admits. -/
def SmallI (x : It) : Prop := x.s.length ≤ 200 ∧ x.L.length ≤ 50
theorem encT_small {x : It} (h : SmallI x) : (encT x).length ≤ 1000 := by
  have := encT_len x
  obtain ⟨h1, h2⟩ := h
  omega
theorem small_snoc {l : List It} {k : Nat} (h : k < l.length) (h1 : ∀ x ∈ l.take k, SmallI x) (h2 : SmallI l[k]) : ∀ x ∈ l.take (k + 1), SmallI x := by
  intro x hx
  rw [List.take_succ_eq_append_getElem h] at hx
  simp only [List.mem_append, List.mem_cons, List.not_mem_nil, or_false] at hx
  rcases hx with hx | rfl
  · exact h1 x hx
  · exact h2
theorem encTs_at (l : List It) (k : Nat) (h : k < l.length) : (encTs l).drop (encTs (l.take k)).length = encT l[k] ++ encTs (l.drop (k + 1)) := by
  have e : encTs l = encTs (l.take k) ++ encTs (l.drop k) := by rw [← encTs_append, List.take_append_drop]
  rw [e, List.drop_left, List.drop_eq_getElem_cons h]
  rfl
theorem encTs_le (l : List It) (k : Nat) : (encTs (l.take k)).length ≤ (encTs l).length := by
  conv => rhs; rw [← List.take_append_drop k l]
  rw [encTs_append, List.length_append]
  omega

set_option maxRecDepth 100000 in
set_option maxHeartbeats 6400000 in
theorem round_main (a0 : Option Addr) (cap0 : Nat) (l : List It) (w : World) (hl : l.length ≤ 20) (hG : ∀ x ∈ l, GoodI w w.heap.size x) (hA : Lie w w.heap.size a0 (iflat l)) :
    Calls Try.prog 5 #[.slice a0 l.length cap0] w fun e w' => e = .returned (.bool true) ∧ Below w.heap.size w w' := by
  have HG := hide hG
  have HA := hide hA
  clear hG hA
  go_enter Try.func5, Try.ntmps5
  go_upto_region 5 with fail
  go_loopw [3, 4] (fun b i wr => ∃ (k : Nat) (M : List UInt8) (B : Option Addr) (c : Nat), k ≤ l.length ∧ i = .int .i64 k ∧ Hid (M = encTs (l.take k)) ∧ b = .slice B M.length c ∧ M.length ≤ k * 1000 ∧ Hid (wr.ownsRow w.heap.size 5 1 (.slice B M.length c) M.length (bytes M)) ∧ Below w.heap.size w wr ∧ Hid (∀ x ∈ l.take k, SmallI x)) (fun _ i _ => l.length - (intOf i).toNat)
  case atStart => exact ⟨0, [], none, 0, by omega, rfl, hide rfl, rfl, by simp, hide own_nil, Below.refl _ _, hide (by simp)⟩
  case round =>
    obtain ⟨k, M, B, c, hk, rfl, hM, rfl, hMl, hown, hbw, hsm⟩ := hrel
    by_cases hlt : k < l.length
    · obtain ⟨b, o, rfl, -, q0, q1, q2, q3, q4⟩ := (HA.out.on hbw).item k hlt
      have hsucc := encTs_snoc l k hlt
      rw [← hM.out] at hsucc
      have hgood := (HG.out l[k] (List.getElem_mem hlt)).below hbw
      have hsn := hide (small_snoc hlt hsm.out)
      have hts := hide (fun (hh : SmallI l[k]) => encT_small hh)
      have HP := fun (h : SmallI l[k]) => put_any w.heap.size B M.length c M l[k] wr rfl (by omega) hbw.size hown.out hgood h.1 h.2
      generalize l[k] = x at q0 q1 q2 q3 q4 hsucc hsn hts HP
      obtain ⟨xu, xn, sA, sc, s, v, lA, lc, L⟩ := x
      unfold iv at HP
      simp only at q0 q1 q2 q3 q4 HP
      have HP' := hide HP
      have hsucc' := hide hsucc
      clear HP hsucc hgood hown hM hsm
      by_cases h1 : 200 < s.length
      · have h1' : (200 : Int) < (s.length : Int) := by omega
        clear HP'
        go_wp2_with (go_at_call 30; refine (example11_any _).mono ?_; rintro e w1 ⟨rfl, hb1⟩)
        go_ret
        exact ⟨rfl, chain hbw hb1⟩
      by_cases h2 : 50 < L.length
      · have h2' : (50 : Int) < (L.length : Int) := by omega
        clear HP'
        go_wp2_with (go_at_call 30; refine (example11_any _).mono ?_; rintro e w1 ⟨rfl, hb1⟩)
        go_ret
        exact ⟨rfl, chain hbw hb1⟩
      have hx : Hid (SmallI ⟨xu, xn, sA, sc, s, v, lA, lc, L⟩) := hide ⟨by simp only; omega, by simp only; omega⟩
      have hTl := hts.out hx.out
      have HP := hide (HP'.out hx.out)
      clear HP' hts
      generalize encT ⟨xu, xn, sA, sc, s, v, lA, lc, L⟩ = T at HP hTl hsucc'
      go_wp2_with fail
      refine Calls.mono HP.out ?_
      rintro e w2 ⟨A2, c2, rfl, o2, b2⟩
      have B2 := hide (hbw.trans b2)
      have O2 := hide o2
      clear HP q0 q1 q2 q3 q4 b2 o2
      go_wp2_with fail
      go_roundw
      case rel =>
        refine ⟨k + 1, M ++ T, A2, c2, by omega, by go_num, hide hsucc'.out.symm, by rw [List.length_append], ?_, O2, B2.out, hide (hsn.out hx.out)⟩
        rw [List.length_append]; omega
      case measure => simp [intOf]; omega
    · obtain rfl : k = l.length := by omega
      have hM' : Hid (M = encTs l) := hide (by have := hM.out; rwa [List.take_length] at this)
      have hsm' : Hid (∀ x ∈ l, SmallI x) := hide (by have := hsm.out; rwa [List.take_length] at this)
      have LB := hide (Lie.of_own hown.out)
      have hcap := own_cap hown.out
      have BW := hide hbw
      have hM2 : Hid (M.length ≤ 1000000) := hide (by omega)
      clear hM hsm hown hbw hMl hlt hk
      obtain ⟨wo, rfl⟩ : ∃ wo : World, wo = wr := ⟨_, rfl⟩
      go_upto_region 12 with fail
      go_loopw [5, 6, 7] (fun at_ ok i wr => ∃ (k a : Nat), k ≤ l.length ∧ i = .int .i64 k ∧ ok = .bool true ∧ at_ = .int .i64 a ∧ Hid (a = (encTs (l.take k)).length) ∧ Below wo.heap.size wo wr) (fun _ _ i _ => l.length - (intOf i).toNat)
      case atStart => exact ⟨0, 0, by omega, rfl, rfl, rfl, hide rfl, Below.refl _ _⟩
      case round =>
        obtain ⟨k, a, hk, rfl, rfl, rfl, ha, hbw⟩ := hrel
        by_cases hlt : k < l.length
        · have hbb := chain BW.out hbw
          obtain ⟨b, o, rfl, -, q0, q1, q2, q3, q4⟩ := (HA.out.on hbb).item k hlt
          have hs := hsm'.out l[k] (List.getElem_mem hlt)
          have hsucc := hide (show (encTs (l.take (k + 1))).length = a + (encT l[k]).length by rw [encTs_snoc l k hlt, List.length_append, ha.out])
          have HT := hide (taken_any B M.length c M (encTs (l.drop (k + 1))) a l[k] wr rfl hM2.out hcap (by rw [ha.out, hM'.out]; exact encTs_le l k) (by rw [ha.out, hM'.out]; exact encTs_at l k hlt) (LB.out.on hbw) ((HG.out l[k] (List.getElem_mem hlt)).on hbb) hs.1 hs.2)
          generalize l[k] = x at q0 q1 q2 q3 q4 hsucc HT hs
          obtain ⟨xu, xn, sA, sc, s, v, lA, lc, L⟩ := x
          have HT := HT.out
          unfold iv at HT
          simp only at q0 q1 q2 q3 q4 HT
          have HT' := hide HT
          generalize (encT ⟨xu, xn, sA, sc, s, v, lA, lc, L⟩).length = T at HT' hsucc
          clear HT hs ha hbb
          go_wp2_with fail
          refine Calls.mono HT'.out ?_
          rintro e w2 ⟨rfl, b2⟩
          have B2 := hide (chain hbw b2)
          clear HT' q0 q1 q2 q3 q4 b2
          go_wp2_with fail
          go_roundw
          case rel => exact ⟨k + 1, a + T, by omega, by go_num, rfl, by go_num, hide hsucc.out.symm, B2.out⟩
          case measure => simp [intOf]; omega
        · obtain rfl : k = l.length := by omega
          have hend : Hid (a = M.length) := hide (by have := ha.out; rw [List.take_length, ← hM'.out] at this; exact this)
          have heq : ((a : Int) == (M.length : Int)) = true := by have := hend.out; simp; omega
          have BB := hide (chain BW.out hbw)
          clear ha hbw hM' BW hend
          go_wp2_with (go_at_call 30; refine (example11_any _).mono ?_; rintro e w1 ⟨rfl, hb1⟩)
          go_ret
          exact ⟨rfl, chain BB.out hb1⟩

set_option maxRecDepth 100000 in
set_option maxHeartbeats 800000 in
theorem walk_BinencRoundTrip (a0 : Option Addr) (len0 cap0 : Nat) (l : List It) (w : World) (w0 : IsItems w a0 len0 cap0 l) :
    Calls Try.prog 5 #[.slice a0 len0 cap0] w fun e w' => e = .returned (.bool true) ∧ Below w.heap.size w w' := by
  obtain ⟨rfl, hcap, hm, hG, hA⟩ := w0
  by_cases h1 : 20 < l.length
  · have h1' : (20 : Int) < (l.length : Int) := by omega
    clear hG hA hm
    go_enter Try.func5, Try.ntmps5
    go_wp2_with (go_at_call 30; refine (example11_any _).mono ?_; rintro e w1 ⟨rfl, hb1⟩)
    go_ret
    exact ⟨rfl, hb1⟩
  exact round_main a0 cap0 l w (by omega) hG hA
end Go.Proofs.Ytjbdfmniiiaakaa
