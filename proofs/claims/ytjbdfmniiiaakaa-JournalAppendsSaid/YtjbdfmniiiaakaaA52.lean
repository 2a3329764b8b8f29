/- The walk of the law JournalAppends, for every input. -/
import Derived.Test.YtjbdfmniiiaakaaJsm
import Derived.Deep.RegionWith
namespace Go.Proofs.Ytjbdfmniiiaakaa
set_option linter.unusedVariables false
open Go.RowKit
open Ent (E)
open Jou (encJ)

/-- a journal and a row beside it share no block. -/
def Apart (v : Value) (g : Nat) (R : Option Nat) : Prop := ∀ i, v.ownBlock = some i → R ≠ some i ∧ i ≠ g
theorem apart_j {w : World} {B : Option Addr} {n d g base size : Nat} {t : TypeId} {R R' : Option Nat} {xs : List Value} (h : Apart (.slice B n d) g R) (ho : w.ownsRow base t size (.slice B n d) n xs) (hp : R' = R ∨ ∃ r, R' = some r ∧ w.heap.size ≤ r) : Apart (.slice B n d) g R' := fun i hi => by
  obtain ⟨h1, h2⟩ := h i hi
  refine ⟨?_, h2⟩
  rcases hp with rfl | ⟨r, rfl, hr⟩
  · exact h1
  · have := (ho.lt i hi).2
    intro e; injection e with e; omega
theorem apart_row {w : World} {A B : Option Addr} {n m c d g : Nat} {R : Option Nat} {l : List E} (h : Apart (.slice B n d) g R) (hJ : JAt w g R l) (hp : (Value.slice A m c).ownBlock = (Value.slice B n d).ownBlock ∨ (Value.slice A m c).ownBlock = some w.heap.size) : Apart (.slice A m c) g R := fun i hi => by
  rcases hp with hp | hp
  · exact h i (by rw [← hp]; exact hi)
  · rw [hp] at hi
    injection hi with hi
    subst hi
    refine ⟨fun e => ?_, fun e => ?_⟩
    · subst e; exact absurd hJ.row_lt (by omega)
    · have := hJ.read.lt; omega

set_option maxRecDepth 100000 in
set_option maxHeartbeats 12800000 in
theorem appends_main (a0 : Option Addr) (cap0 : Nat) (l : List E) (w : World) (hs : smallB l = true) (hG : ∀ x ∈ l, GoodE x) (hA0 : Lie w w.heap.size a0 (flat l)) :
    Calls Try.prog 14 #[.slice a0 l.length cap0] w fun e w' => e = .returned (.bool true) ∧ Below w.heap.size w w' := by
  have HS := small_any a0 _ cap0 l w rfl hG hA0
  rw [hs] at HS
  obtain ⟨h30, -⟩ := smallB_yes hs
  have hK := hide (kept_mk hs)
  have HS' := hide HS
  have HA := hide hA0
  obtain ⟨i0, hi, hz0, hz1, hz2⟩ := info_parts info_e
  clear hG hA0 hs HS
  go_enter Try.func14, Try.ntmps14
  go_wp2_with fail
  refine Calls.mono HS'.out ?_
  rintro e w1 ⟨rfl, rfl⟩
  clear HS'
  go_wp2_with fail
  refine Calls.mono (new_any _) ?_
  rintro e w1 ⟨rfl, j1, b1⟩
  have J1 := hide j1
  have B1 := hide b1
  clear j1 b1
  go_wp2_with fail
  refine Calls.mono (len_any _ [] _ J1.out.read) ?_
  rintro e w2 ⟨rfl, rfl⟩
  go_wp2_with fail
  refine Calls.mono (entries_any _ [] _ J1.out.read (by simp)) ?_
  intro e w3 h
  obtain ⟨A3, c3, rfl, -, -, b3⟩ := givesE_lit h (n := 0) rfl
  have J3 := hide (J1.out.below b3)
  have B3 := hide (chain B1.out b3)
  clear h b3 J1 B1
  go_wp2_with fail
  refine Calls.mono (jbytes_any _ [] _ J3.out.read (by simp) (by simp)) ?_
  intro e w4 h
  obtain ⟨A4, c4, rfl, -, -, b4⟩ := gives_lit h (n := 0) rfl
  have J4 := hide (J3.out.below b4)
  have B4 := hide (chain B3.out b4)
  clear h b4 J3 B3
  go_upto_region 8 with fail
  go_loopw [4, 5] (fun v i wr => ∃ (k : Nat) (p : List E) (B : Option Addr) (d : Nat) (R : Option Nat), k ≤ l.length ∧ i = .int .i64 k ∧ Hid (p = Jou.keep [] (l.take k)) ∧ v = .slice B p.length d ∧ Hid (wr.ownsRow w.heap.size 36 3 (.slice B p.length d) p.length (flat p)) ∧ Hid (JAt wr w.heap.size R p) ∧ Hid (Apart (.slice B p.length d) w.heap.size R) ∧ Hid (∀ i, R = some i → w.heap.size ≤ i) ∧ Below w.heap.size w wr) (fun _ i _ => l.length - (intOf i).toNat)
  case atStart => exact ⟨0, [], none, 0, none, by omega, rfl, hide rfl, rfl, hide own_nil, J4, hide (fun i hi => by cases hi), hide (fun i hi => by cases hi), B4.out⟩
  case round =>
    obtain ⟨k, p, B, d, R, hk, rfl, hp, rfl, ho, hJ, hap, hR, hbw⟩ := hrel
    have hpl : p.length ≤ k := by
      have := Jou.keep_len (l.take k) []
      rw [← hp.out, List.length_take, Nat.min_eq_left hk] at this
      simpa using this
    by_cases hlt : k < l.length
    · obtain ⟨b, o, rfl, -, q0, q1, q2⟩ := (HA.out.on hbw).entry k hlt
      have hsn := keep_snoc l k hlt
      rw [← hp.out] at hsn
      have HE := referr_any B _ d p l[k] wr rfl (Lie.of_own ho.out) (by omega)
      have HP := fun W (hb : Below wr.heap.size wr W) => append_jany w.heap.size R p l[k] W (hJ.out.below hb) (by omega)
      have QQ := hide (fun W (hb : Below w.heap.size w W) => (HA.out.on hb).entry k hlt)
      generalize l[k] = x at q0 q1 q2 hsn HE HP QQ
      unfold Appends at HP
      generalize Jou.err p x = er at hsn HE HP
      obtain ⟨xk, xt, s⟩ := x
      unfold ev at HE HP
      simp only at q0 q1 q2 HE HP QQ
      have HE' := hide HE
      have HP' := hide HP
      have hsn' := hide hsn
      clear hsn HE HP hp
      go_wp2_with fail
      refine Calls.mono HE'.out ?_
      rintro e w2 ⟨rfl, b2⟩
      obtain ⟨b', o', hbo, -, r0, r1, r2⟩ := QQ.out _ (chain hbw b2)
      simp only [Option.some.injEq, Addr.mk.injEq, and_true] at hbo
      obtain ⟨rfl, rfl⟩ := hbo
      have ho2 := hide (own_below ho.out b2)
      have hJ2 := hide (hJ.out.below b2)
      have hb2 := hide (chain hbw b2)
      have HP2 := hide (HP'.out _ b2)
      clear HE' HP' q0 q1 q2 ho hJ hbw b2
      go_wp2_with fail
      refine Calls.mono HP2.out ?_
      rintro e w3 ⟨rfl, h⟩
      clear HP2 r0 r1 r2
      rcases h with ⟨he, b3⟩ | ⟨he, R', g1, g2, g3⟩
      · have hne : ((er : Int) == 0) = false := by simp; omega
        have hs := hide hsn'.out
        rw [if_neg he] at hs
        have ho3 := hide (own_below ho2.out b3)
        have hJ3 := hide (hJ2.out.below b3)
        have hb3 := chain hb2.out b3
        clear hsn' he ho2 hJ2 hb2 b3
        go_wp2_with fail
        go_roundw
        case rel => exact ⟨k + 1, p, B, d, R, by omega, by go_num, hide hs.out.symm, rfl, ho3, hJ3, hap, hR, hb3⟩
        case measure => simp [intOf]; omega
      · subst he
        have hs := hide hsn'.out
        rw [if_pos rfl] at hs
        have ho3 := hide (g2.own ho2.out (fun i hi hS => by
          obtain ⟨k1, k2⟩ := hap.out i hi
          rcases hS with hS | hS
          · exact k2 hS
          · exact k1 hS.symm))
        have hb3 := hb2.out.trans (g2.below hb2.out.size (fun i hi => by
          rcases hi with hi | hi
          · omega
          · exact hR.out i hi.symm))
        have hap3 := hide (apart_j hap.out ho2.out g3)
        have hR3 := hide (show ∀ i, R' = some i → w.heap.size ≤ i from fun i hi => by
          rcases g3 with g3 | ⟨q, g3, g4⟩
          · exact hR.out i (by rw [← g3]; exact hi)
          · have := hb2.out.size
            rw [g3] at hi
            injection hi with hi
            omega)
        have hJ3 := hide g1
        obtain ⟨b', o', hbo, -, r0, r1, r2⟩ := QQ.out _ hb3
        simp only [Option.some.injEq, Addr.mk.injEq, and_true] at hbo
        obtain ⟨rfl, rfl⟩ := hbo
        have hflx := hide (flat_one (E.mk xk xt s))
        clear hsn' ho2 hJ2 hb2 hap hR g1 g2 g3 QQ
        go_wp2_with (at_builtin; refine wpList_app rfl (.tmp 53) (.tmp 58) _ rfl w.heap.size 36 i0 _ 3 32 Try.underlying32 hi hz0 hz1 hz2 rfl (by omega) B p.length d (flat p) rfl (ho3.out.alloc _) _ (some ⟨w3.heap.size, 0, none⟩) 1 1 (ecells ⟨xk, xt, s⟩) rfl rfl (Lie.new w3 (ecells ⟨xk, xt, s⟩) 36) (flat_mem [⟨xk, xt, s⟩]) (by omega) (by unfold maxLen; omega) (by have := hb3.size; simp; omega) w (hb3.alloc hb3.size _) ?_; intro A4 c4 w4 HA4 hb4)
        go_roundw
        case rel =>
          have e : (p ++ [E.mk xk xt s]).length = p.length + 1 := by simp
          have hJ4 := hJ3.out.below (below_new w3 (.cells (ecells ⟨xk, xt, s⟩).toArray 36))
          have hap4 := apart_row hap3.out hJ4 HA4.out.place
          refine ⟨k + 1, p ++ [⟨xk, xt, s⟩], A4, c4, R', by omega, by go_num, hide hs.out.symm, by rw [e], hide ?_, hide (hJ4.only (Only.of_grown HA4.out.grown) (fun he => (hap3.out _ he.symm).2 rfl) (fun i hi he => (hap3.out i he.symm).1 hi)), hide (by rw [e]; exact hap4), hR3, hb4⟩
          rw [e, flat_append, hflx.out]
          exact HA4.out.own
        case measure => simp [intOf]; omega
    · obtain rfl : k = l.length := by omega
      have hp' := hp.out
      rw [List.take_length] at hp'
      obtain ⟨-, p2, p3, p4⟩ := hp' ▸ hK.out
      have PC := hide p2
      have J5 := hide (hJ.out.read)
      have L5 := hide (Lie.of_own ho.out)
      have HBy := hide (fun W (h : JR W w.heap.size p) => jbytes_any _ p W h PC.out (by omega))
      have HBr := hide (fun W (h : Lie W W.heap.size B (flat p)) => refjbytes_any B _ d p W rfl h PC.out (by omega))
      generalize encJ p = M at HBy HBr p4
      have b0 := hide hbw
      clear hp hp' p2 hJ ho hap hR hbw hK
      go_upto_region 15 with fail
      have J5 := hide (J5.out.below ((Below.refl _ _).drew))
      have L5 := hide (L5.out.on ((Below.refl _ _).drew))
      have b0 := hide b0.out.drew
      go_region_with (first
        | (go_at_call 29; (with_reducible refine Calls.mono (len_any _ p _ J5.out) ?_); rintro e w6 ⟨rfl, rfl⟩)
        | (go_at_call 26; (with_reducible refine Calls.mono (entries_any _ p _ J5.out (by omega)) ?_); rintro e w6 ⟨A6, c6, rfl, o6, b6⟩; have L6 := hide (Lie.of_own o6); have L5' := hide (L5.out.on b6); have J6 := hide (J5.out.below b6); have B6 := hide (chain b0.out b6); clear o6 b6)
        | (go_at_call 25; (with_reducible refine Calls.mono (jsame_any A6 B _ _ c6 d p _ rfl rfl (by omega) L6.out L5'.out) ?_); rintro e w7 ⟨rfl, b7⟩; have J7 := hide (J6.out.below b7); have L7 := hide (L5'.out.on b7); have B7 := hide (chain B6.out b7); clear b7)
        | (go_at_call 23; (with_reducible refine Calls.mono (HBy.out _ J7.out) ?_); rintro e w8 ⟨A8, c8, rfl, o8, b8⟩; have k8 := str_at (c := c8) (Lie.of_own o8) rfl; have L8 := hide (Lie.of_own o8); have L8' := hide (L7.out.on b8); have B8 := hide (chain B7.out b8); clear o8 b8)
        | (go_at_call 51; (with_reducible refine Calls.mono (HBr.out _ L8'.out) ?_); rintro e w9 ⟨A9, c9, rfl, o9, b9⟩; have k9 := str_at (c := c9) (Lie.of_own o9) rfl; have k8' := str_at (c := c8) (L8.out.on b9) rfl; have B9 := hide (chain B8.out b9); clear o9 b9)
        | (go_at_call 21; (with_reducible refine Calls.mono (example52_any _) ?_); rintro e w10 ⟨rfl, b10⟩; have B10 := hide (chain B9.out b10); clear b10 k8 k9 k8'))
      all_goals (go_wp2_with fail; go_ret; exact ⟨rfl, B10.out⟩)

set_option maxRecDepth 100000 in
set_option maxHeartbeats 3200000 in
theorem walk_JournalAppends (a0 : Option Addr) (len0 cap0 : Nat) (l : List E) (w : World) (w0 : IsEnts w a0 len0 cap0 l) :
    Calls Try.prog 14 #[.slice a0 len0 cap0] w fun e w' => e = .returned (.bool true) ∧ Below w.heap.size w w' := by
  obtain ⟨rfl, hcap, hm, hG, hA⟩ := w0
  by_cases hs : smallB l = true
  · exact appends_main a0 cap0 l w hs hG hA
  · have HS := small_any a0 _ cap0 l w rfl hG hA
    rw [Bool.not_eq_true] at hs
    rw [hs] at HS
    have HS := hide HS
    clear hG hA hm hs
    go_enter Try.func14, Try.ntmps14
    go_wp2_with fail
    refine Calls.mono HS.out ?_
    rintro e w1 ⟨rfl, rfl⟩
    go_wp2_with (go_at_call 21; refine (example52_any _).mono ?_; rintro e w1 ⟨rfl, hb1⟩)
    go_ret
    exact ⟨rfl, hb1⟩
end Go.Proofs.Ytjbdfmniiiaakaa
