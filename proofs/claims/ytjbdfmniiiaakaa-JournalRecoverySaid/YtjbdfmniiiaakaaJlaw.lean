/- The law's own helpers on layer 52: letter, same, small, kept and made. -/
import Derived.Test.YtjbdfmniiiaakaaJap
import Derived.Test.YtjbdfmniiiaakaaJref
import Derived.Test.YtjbdfmniiiaakaaJen
namespace Go.Proofs.Ytjbdfmniiiaakaa
set_option linter.unusedVariables false
open Go.RowKit
open Ent (E)

set_option maxRecDepth 100000 in
set_option maxHeartbeats 3200000 in
theorem letter_any (t : Int) (s : ByteArray) (w : World) : Calls Try.prog 52 #[.int .i64 t, .string s] w fun e w' => e = .returned (ev ⟨1, t, s⟩) ∧ Below w.heap.size w w' := by
  go_enter Try.func52, Try.ntmps52
  go_wp2_with fail
  refine bodyPost_ret (v := ev ⟨1, t, s⟩) (by simp [results, Try.results52, go_sem, ev]) rfl ⟨rfl, by go_grown⟩

set_option maxRecDepth 100000 in
set_option maxHeartbeats 3200000 in
theorem jsame_any (A B : Option Addr) (n m c d : Nat) (l : List E) (w : World) (hn : n = l.length) (hm : m = l.length) (hl : l.length ≤ 1000000) (hA : Lie w w.heap.size A (flat l)) (hB : Lie w w.heap.size B (flat l)) :
    Calls Try.prog 25 #[.slice A n c, .slice B m d] w fun e w' => e = .returned (.bool true) ∧ Below w.heap.size w w' := by
  subst hn hm
  have HA := hide hA
  have HB := hide hB
  clear hA hB
  go_enter Try.func25, Try.ntmps25
  go_upto_region 4 with fail
  go_loopw [5] (fun i wr => ∃ k : Nat, k ≤ l.length ∧ i = .int .i64 k ∧ Below w.heap.size w wr) (fun i _ => l.length - (intOf i).toNat)
  case atStart => exact ⟨0, by omega, rfl, Below.refl _ _⟩
  case round =>
    obtain ⟨k, hk, rfl, hbw⟩ := hrel
    by_cases hlt : k < l.length
    · obtain ⟨b, o, rfl, -, q0, q1, q2⟩ := (HA.out.on hbw).entry k hlt
      obtain ⟨b', o', rfl, -, r0, r1, r2⟩ := (HB.out.on hbw).entry k hlt
      generalize l[k] = x at q0 q1 q2 r0 r1 r2
      obtain ⟨xk, xt, s⟩ := x
      simp only at q0 q1 q2 r0 r1 r2
      have hi0 : (0 : Int) ≤ (k : Int) := by omega
      have hi1 : (k : Int) < (l.length : Int) := by omega
      go_upto_region 6 with fail
      go_quiet (fail)
      go_wp2_with fail
      go_roundw
      case rel => exact ⟨k + 1, by omega, by go_num, below_dn hbw _⟩
      case measure => simp [intOf]; omega
    · obtain rfl : k = l.length := by omega
      go_wp2_with fail
      go_ret
      exact ⟨rfl, hbw⟩

/-- small, as a Bool. -/
def smallB (l : List E) : Bool := decide (l.length ≤ 30) && l.all fun x => decide (x.s.size ≤ 1024)
theorem smallB_yes {l : List E} (h : smallB l = true) : l.length ≤ 30 ∧ ∀ x ∈ l, x.s.size ≤ 1024 := by
  unfold smallB at h
  simpa using h
theorem smallB_long {l : List E} (h : 30 < l.length) : smallB l = false := by unfold smallB; simp; omega
theorem smallB_no {l : List E} {k : Nat} (hk : k < l.length) (h : 1024 < l[k].s.size) : smallB l = false := by
  unfold smallB
  simp only [Bool.and_eq_false_iff]
  right
  rw [List.all_eq_false]
  exact ⟨l[k], List.getElem_mem hk, by simp; omega⟩
theorem smallB_all {l : List E} (h0 : l.length ≤ 30) (h : ∀ x ∈ l, x.s.size ≤ 1024) : smallB l = true := by
  unfold smallB; simp; exact ⟨h0, h⟩

set_option maxRecDepth 100000 in
set_option maxHeartbeats 3200000 in
theorem small_any (A : Option Addr) (n c : Nat) (l : List E) (w : World) (hn : n = l.length) (hG : ∀ x ∈ l, GoodE x) (hA : Lie w w.heap.size A (flat l)) :
    Calls Try.prog 48 #[.slice A n c] w fun e w' => e = .returned (.bool (smallB l)) ∧ w = w' := by
  subst hn
  by_cases h30 : 30 < l.length
  · rw [smallB_long h30]
    clear hG hA
    go_enter Try.func48, Try.ntmps48
    go_wp2_with fail
    go_ret
    exact ⟨rfl, rfl⟩
  have HA := hide hA
  have HG := hide hG
  have qn := hide (fun k (hk : k < l.length) h => smallB_no hk h)
  have qa := hide (fun h => smallB_all (l := l) (by omega) h)
  generalize smallB l = r at qn qa ⊢
  clear hA hG
  go_enter Try.func48, Try.ntmps48
  go_upto_region 4 with fail
  go_loopw [3] (fun i wr => ∃ k : Nat, k ≤ l.length ∧ i = .int .i64 k ∧ Hid (∀ x ∈ l.take k, x.s.size ≤ 1024) ∧ w = wr) (fun i _ => l.length - (intOf i).toNat)
  case atStart => exact ⟨0, by omega, rfl, hide (by simp), rfl⟩
  case round =>
    obtain ⟨k, hk, rfl, hS, rfl⟩ := hrel
    by_cases hlt : k < l.length
    · obtain ⟨b, o, rfl, -, -, -, q2⟩ := HA.out.entry k hlt
      have hx := (HG.out l[k] (List.getElem_mem hlt)).2.2
      have hn := hide (fun h => qn.out k hlt h)
      have hy := hide (fun (h : l[k].s.size ≤ 1024) (x : E) (hx : x ∈ l.take (k + 1)) => show x.s.size ≤ 1024 from by
        rw [List.take_succ_eq_append_getElem hlt, List.mem_append] at hx
        rcases hx with hx | hx
        · exact hS.out x hx
        · obtain rfl : x = l[k] := by simpa using hx
          exact h)
      generalize l[k] = x at q2 hx hn hy
      obtain ⟨xk, xt, s⟩ := x
      unfold maxLen at hx
      simp only at q2 hx hn hy
      by_cases hbig : 1024 < s.size
      · have hr := hide (hn.out hbig)
        go_wp2_with fail
        go_ret
        exact ⟨by rw [hr.out]; rfl, rfl⟩
      · go_wp2_with fail
        go_roundw
        case rel => exact ⟨k + 1, by omega, by go_num, hide (hy.out (by omega)), trivial⟩
        case measure => simp [intOf]; omega
    · obtain rfl : k = l.length := by omega
      have hr := hide (qa.out (by have := hS.out; rwa [List.take_length] at this))
      go_wp2_with fail
      go_ret
      exact ⟨by rw [hr.out]; rfl, rfl⟩

theorem keep_snoc (l : List E) (k : Nat) (hk : k < l.length) : Jou.keep [] (l.take (k + 1)) = if Jou.err (Jou.keep [] (l.take k)) l[k] = 0 then Jou.keep [] (l.take k) ++ [l[k]] else Jou.keep [] (l.take k) := by
  rw [List.take_succ_eq_append_getElem hk, Jou.keep_append]
  simp only [Jou.keep]

/-- a journal of the call's own, all of it new. -/
def GotJ (w : World) (l : List E) (e : Ending) (w' : World) : Prop :=
  ∃ g R, e = .returned (.pointer (some ⟨g, 0, none⟩)) ∧ JAt w' g R l ∧ Below w.heap.size w w' ∧ w.heap.size ≤ g ∧ (∀ i, R = some i → w.heap.size ≤ i)

set_option maxRecDepth 100000 in
set_option maxHeartbeats 3200000 in
theorem made_any (A : Option Addr) (n c : Nat) (l : List E) (w : World) (hn : n = l.length) (hl : l.length ≤ 100000) (hA : Lie w w.heap.size A (flat l)) :
    Calls Try.prog 27 #[.slice A n c] w (GotJ w (Jou.keep [] l)) := by
  subst hn
  have HA := hide hA
  clear hA
  go_enter Try.func27, Try.ntmps27
  go_wp2_with fail
  refine Calls.mono (new_any _) ?_
  rintro e w1 ⟨rfl, hJ1, hb1⟩
  go_upto_region 3 with fail
  go_loopw [4] (fun i wr => ∃ (k : Nat) (p : List E) (R : Option Nat), k ≤ l.length ∧ i = .int .i64 k ∧ Hid (p = Jou.keep [] (l.take k)) ∧ Hid (JAt wr w.heap.size R p) ∧ Below w.heap.size w wr ∧ Hid (∀ i, R = some i → w.heap.size ≤ i)) (fun i _ => l.length - (intOf i).toNat)
  case atStart => exact ⟨0, [], none, by omega, rfl, hide rfl, hide hJ1, hb1, hide (fun i hi => by cases hi)⟩
  case round =>
    obtain ⟨k, p, R, hk, rfl, hp, hJ, hbw, hR⟩ := hrel
    have hpl : p.length ≤ k := by
      have := Jou.keep_len (l.take k) []
      rw [← hp.out, List.length_take, Nat.min_eq_left hk] at this
      simpa using this
    by_cases hlt : k < l.length
    · obtain ⟨b, o, rfl, -, q0, q1, q2⟩ := (HA.out.on hbw).entry k hlt
      have hsn := keep_snoc l k hlt
      rw [← hp.out] at hsn
      have HP := append_jany w.heap.size R p l[k] wr hJ.out (by omega)
      generalize l[k] = x at q0 q1 q2 hsn HP
      have HP' := hide HP
      obtain ⟨xk, xt, s⟩ := x
      unfold ev at HP'
      simp only at q0 q1 q2 HP'
      have hsn' := hide hsn
      clear hsn HP hp
      go_wp2_with fail
      refine Calls.mono HP'.out ?_
      rintro e w2 ⟨rfl, h⟩
      clear HP' q0 q1 q2
      rcases h with ⟨he, hb2⟩ | ⟨he, R', g1, g2, g3⟩
      · have hs := hide hsn'.out
        rw [if_neg he] at hs
        clear hsn' he
        have hJ2 := hide (hJ.out.below hb2)
        go_wp2_with fail
        go_roundw
        case rel => exact ⟨k + 1, p, R, by omega, by go_num, hide hs.out.symm, hJ2, chain hbw hb2, hR⟩
        case measure => simp [intOf]; omega
      · have hs := hide hsn'.out
        rw [if_pos he] at hs
        clear hsn' he
        have hJ2 := hide g1
        have hO := hide g2
        have hP := hide g3
        clear g1 g2 g3
        go_wp2_with fail
        go_roundw
        case rel =>
          refine ⟨k + 1, _, R', by omega, by go_num, hide hs.out.symm, hJ2, hbw.trans (hO.out.below hbw.size (fun i hi => ?_)), hide (fun i hi => ?_)⟩
          · rcases hi with hi | hi
            · omega
            · exact hR.out i hi.symm
          · rcases hP.out with g3 | ⟨q, g3, g4⟩
            · exact hR.out i (by rw [← g3]; exact hi)
            · have := hbw.size
              rw [g3] at hi
              injection hi with hi
              omega
        case measure => simp [intOf]; omega
    · obtain rfl : k = l.length := by omega
      have hp' := hp.out
      rw [List.take_length] at hp'
      have hp' := hide hp'
      clear hp
      go_wp2_with fail
      go_ret
      rw [← hp'.out]
      exact ⟨w.heap.size, R, rfl, hJ.out, hbw, Nat.le_refl _, hR.out⟩

set_option maxRecDepth 100000 in
set_option maxHeartbeats 3200000 in
theorem kept_any (A : Option Addr) (n c : Nat) (l : List E) (w : World) (hn : n = l.length) (hl : l.length ≤ 100000) (hA : Lie w w.heap.size A (flat l)) :
    Calls Try.prog 53 #[.slice A n c] w (GivesE w (Jou.keep [] l)) := by
  subst hn
  obtain ⟨i0, hi, hz0, hz1, hz2⟩ := info_parts info_e
  have HA := hide hA
  clear hA
  go_enter Try.func53, Try.ntmps53
  go_wp2_with fail
  go_loopw [3, 4] (fun v i wr => ∃ (k : Nat) (p : List E) (B : Option Addr) (d : Nat), k ≤ l.length ∧ i = .int .i64 k ∧ Hid (p = Jou.keep [] (l.take k)) ∧ v = .slice B p.length d ∧ Hid (wr.ownsRow w.heap.size 36 3 (.slice B p.length d) p.length (flat p)) ∧ Below w.heap.size w wr) (fun _ i _ => l.length - (intOf i).toNat)
  case atStart => exact ⟨0, [], none, 0, by omega, rfl, hide rfl, rfl, hide own_nil, Below.refl _ _⟩
  case round =>
    obtain ⟨k, p, B, d, hk, rfl, hp, rfl, ho, hbw⟩ := hrel
    have hpl : p.length ≤ k := by
      have := Jou.keep_len (l.take k) []
      rw [← hp.out, List.length_take, Nat.min_eq_left hk] at this
      simpa using this
    by_cases hlt : k < l.length
    · obtain ⟨b, o, rfl, -, q0, q1, q2⟩ := (HA.out.on hbw).entry k hlt
      have hsn := keep_snoc l k hlt
      rw [← hp.out] at hsn
      have HP := referr_any B _ d p l[k] wr rfl (Lie.of_own ho.out) (by omega)
      have QQ := hide (fun W (hb : Below wr.heap.size wr W) => (HA.out.on (chain hbw hb)).entry k hlt)
      generalize l[k] = x at q0 q1 q2 hsn HP QQ
      generalize Jou.err p x = er at hsn HP
      obtain ⟨xk, xt, s⟩ := x
      unfold ev at HP
      simp only at q0 q1 q2 HP QQ
      have HP' := hide HP
      have hsn' := hide hsn
      clear hsn HP hp
      go_wp2_with fail
      refine Calls.mono HP'.out ?_
      rintro e w2 ⟨rfl, b2⟩
      obtain ⟨b', o', hbo, -, r0, r1, r2⟩ := QQ.out _ b2
      simp only [Option.some.injEq, Addr.mk.injEq, and_true] at hbo
      obtain ⟨rfl, rfl⟩ := hbo
      have ho2 := hide (own_below ho.out b2)
      have hb2 := chain hbw b2
      clear HP' q0 q1 q2 QQ
      by_cases he : er = 0
      · subst he
        have hs := hide hsn'.out
        rw [if_pos rfl] at hs
        have hflx := hide (flat_one (E.mk xk xt s))
        clear hsn'
        go_wp2_with (at_builtin; refine wpList_app rfl (.tmp 18) (.tmp 23) _ rfl w.heap.size 36 i0 _ 3 32 Try.underlying32 hi hz0 hz1 hz2 rfl (by omega) B p.length d (flat p) rfl (ho2.out.alloc _) _ (some ⟨w2.heap.size, 0, none⟩) 1 1 (ecells ⟨xk, xt, s⟩) rfl rfl (Lie.new w2 (ecells ⟨xk, xt, s⟩) 36) (flat_mem [⟨xk, xt, s⟩]) (by omega) (by unfold maxLen; omega) (by have := hb2.size; simp; omega) w (hb2.alloc hb2.size _) ?_; intro A4 c4 w4 HA4 hb4)
        go_roundw
        case rel =>
          have e : (p ++ [E.mk xk xt s]).length = p.length + 1 := by simp
          refine ⟨k + 1, p ++ [⟨xk, xt, s⟩], A4, c4, by omega, by go_num, hide hs.out.symm, by rw [e], hide ?_, hb4⟩
          rw [e, flat_append, hflx.out]
          exact HA4.out.own
        case measure => simp [intOf]; omega
      · have hne : ((er : Int) == 0) = false := by simp; omega
        have hs := hide hsn'.out
        rw [if_neg he] at hs
        clear hsn' he
        go_wp2_with fail
        go_roundw
        case rel => exact ⟨k + 1, p, B, d, by omega, by go_num, hide hs.out.symm, rfl, ho2, hb2⟩
        case measure => simp [intOf]; omega
    · obtain rfl : k = l.length := by omega
      have hp' := hp.out
      rw [List.take_length] at hp'
      have hp' := hide hp'
      clear hp
      go_wp2_with fail
      go_ret
      rw [← hp'.out]
      exact ⟨B, d, rfl, ho.out, hbw⟩
end Go.Proofs.Ytjbdfmniiiaakaa
