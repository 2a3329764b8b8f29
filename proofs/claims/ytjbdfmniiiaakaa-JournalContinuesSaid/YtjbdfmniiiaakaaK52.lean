/- The walk of the law JournalContinues, for every input. -/
import Derived.Test.YtjbdfmniiiaakaaJsm
import Derived.Deep.RegionHeld3
namespace Go.Proofs.Ytjbdfmniiiaakaa
set_option linter.unusedVariables false
open Go.RowKit
open Ent (E)
open Jou (encJ)

/-- the journal behind an entry. -/
def more (p : List E) (x : E) : List E := if Jou.err p x = 0 then p ++ [x] else p
/-- what Append does to a journal and to what lies beside it. -/
theorem appends_keep {w w' : World} {g gk n c : Nat} {R Rk : Option Nat} {p q r : List E} {x : E} {e : Ending} {B : Option Addr} (hJ : JAt w g R p) (h : Appends w g R p x e w')
    (hk : JAt w gk Rk q) (k1 : gk ≠ g) (k2 : R ≠ some gk) (k3 : Rk ≠ some g) (k4 : ∀ i, Rk = some i → R ≠ some i)
    (ho : w.ownsRow 0 36 3 (.slice B n c) n (flat r)) (o1 : ∀ i, (Value.slice B n c).ownBlock = some i → i ≠ g ∧ R ≠ some i) :
    e = .returned (.int .i64 (Jou.err p x : Nat)) ∧ (∃ R', JAt w' g R' (more p x) ∧ (R' = R ∨ ∃ q, R' = some q ∧ w.heap.size ≤ q)) ∧ JAt w' gk Rk q ∧ w'.ownsRow 0 36 3 (.slice B n c) n (flat r) ∧ Only w w' (fun i => i = g ∨ some i = R) := by
  obtain ⟨he, h⟩ := h
  unfold more
  rcases h with ⟨h0, hb⟩ | ⟨h0, R', g1, g2, g3⟩
  · rw [if_neg h0]
    exact ⟨he, ⟨R, hJ.below hb, .inl rfl⟩, hk.below hb, own_below ho hb, Only.of_below hb _⟩
  · rw [if_pos h0]
    refine ⟨he, ⟨R', g1, g3⟩, hk.only g2 (fun hs => ?_) (fun i hi hs => ?_), g2.own ho (fun i hi hs => ?_), g2⟩
    · rcases hs with hs | hs
      · exact k1 hs
      · exact k2 hs.symm
    · rcases hs with hs | hs
      · exact k3 (by rw [hi, hs])
      · exact k4 i hi hs.symm
    · rcases hs with hs | hs
      · exact (o1 i hi).1 hs
      · exact (o1 i hi).2 hs.symm
theorem more_take (p : List E) (x : E) : (more p x).take p.length = p := by
  unfold more; split
  · exact List.take_left
  · exact List.take_length
theorem more_zero {p : List E} {x : E} (h : Jou.err p x = 0) : (more p x).length = p.length + 1 := by unfold more; rw [if_pos h]; simp
theorem more_some {p : List E} {x : E} (h : Jou.err p x ≠ 0) : more p x = p := by unfold more; rw [if_neg h]

set_option maxRecDepth 100000 in
set_option maxHeartbeats 12800000 in
theorem continues_main (a0 : Option Addr) (cap0 : Nat) (l : List UInt8) (x : E) (w : World) (hl : l.length ≤ 4096) (hcap : l.length ≤ cap0) (hA : Lie w w.heap.size a0 (bytes l)) (hx : x.s.size ≤ 1024) :
    Calls Try.prog 4 #[.slice a0 l.length cap0, ev x] w fun e w' => e = .returned (.bool true) ∧ Below w.heap.size w w' := by
  have H1 := fun W (hb : Below w.heap.size w W) => recover_any a0 _ cap0 l W rfl (by omega) hcap (hA.on hb)
  have hlen : (Jou.recover l).1.length ≤ l.length := recF_len _ l [] 0 (by simp) (by omega)
  have hok := (Jou.recover_back l).1
  generalize Jou.recover l = r at H1 hlen hok
  obtain ⟨p, a, er⟩ := r
  simp only at hlen hok
  have hkeep := hide (show Jou.keep [] p = p by rw [Jou.keep_of_ok _ _ hok]; rfl)
  have hp : p.length ≤ 4096 := by omega
  have H1' := hide H1
  obtain ⟨xk, xt, s⟩ := x
  have hxs : s.size ≤ 1024 := hx
  have hXX : Hid (ev ⟨xk, xt, s⟩ = .agg #[.int .i64 xk, .int .i64 xt, .string s]) := hide rfl
  rw [hXX.out]
  have K0 := hide (Kp.new w 36 #[.int .i64 xk, .int .i64 xt, .string s])
  clear hA H1 hok hx hlen
  go_enter Try.func4, Try.ntmps4
  go_upto_region 1 with fail
  generalize w.alloc (.cells #[.int .i64 xk, .int .i64 xt, .string s] 36) = wa at *
  obtain ⟨c0, c1, c2⟩ := K0.out.cells
  go_wp2_with fail
  refine Calls.mono (H1'.out _ K0.out.1) ?_
  rintro e w1 ⟨g, R, rfl, j1, b1, g1, g1'⟩
  have J1 := hide j1
  have K1 := hide (K0.out.next b1)
  have gw : w.heap.size < wa.heap.size := K0.out.2.lt
  clear c0 c1 c2 j1 b1 K0 H1'
  simp only at J1
  go_wp2_with fail
  refine Calls.mono (entries_any g p _ J1.out.read (by omega)) ?_
  rintro e w2 ⟨B, c, rfl, o2, b2⟩
  have J2 := hide (J1.out.below b2)
  have K2 := hide (K1.out.next b2)
  have O2 := hide (o2.mono (Nat.zero_le _))
  have OB := hide (show ∀ i, (Value.slice B p.length c).ownBlock = some i → w1.heap.size ≤ i ∧ i < w2.heap.size from fun i hi => o2.lt i hi)
  have gl1 := J1.out.read.lt
  have gR1 := hide (show ∀ i, R = some i → i < w1.heap.size from fun i hi => by have := J1.out; rw [hi] at this; exact this.row_lt)
  have hz : w1.heap.size ≤ w2.heap.size := b2.size
  have L2 := Lie.of_own o2
  have HM := made_any B p.length c p w2 rfl (by omega) L2
  rw [hkeep.out] at HM
  have HM' := hide HM
  clear o2 b2 J1 K1 L2 HM hkeep
  go_wp2_with fail
  refine Calls.mono HM'.out ?_
  rintro e w3 ⟨gk, Rk, rfl, k3, b3, h3, h3'⟩
  have J3 := hide (J2.out.below b3)
  have K3 := hide (K2.out.next b3)
  have O3 := hide (own_below O2.out b3)
  have Q3 := hide k3
  have h3' := hide h3'
  clear J2 K2 O2 b3 k3 HM'
  have gk3 := Q3.out.read.lt
  have Rk3 := hide (show ∀ i, Rk = some i → i < w3.heap.size from fun i hi => by have := Q3.out; rw [hi] at this; exact this.row_lt)
  have X1 := hide (show gk ≠ g ∧ R ≠ some gk ∧ Rk ≠ some g ∧ (∀ i, Rk = some i → R ≠ some i) ∧ (∀ i, (Value.slice B p.length c).ownBlock = some i → i ≠ g ∧ R ≠ some i) from
    ⟨by omega, fun h => by have := gR1.out _ h; omega, fun h => by have := h3'.out _ h; omega, fun i hi h => by have := gR1.out _ h; have := h3'.out _ hi; omega, fun i hi => by
      have := OB.out i hi
      exact ⟨by omega, fun h => by have := gR1.out _ h; omega⟩⟩)
  have X2 := hide (show ∀ R', (R' = R ∨ ∃ q, R' = some q ∧ w3.heap.size ≤ q) → g ≠ gk ∧ Rk ≠ some g ∧ R' ≠ some gk ∧ (∀ i, R' = some i → Rk ≠ some i) ∧ (∀ i, (Value.slice B p.length c).ownBlock = some i → i ≠ gk ∧ Rk ≠ some i) from fun R' hR' =>
    ⟨by omega, fun h => by have := h3'.out _ h; omega, fun h => by
      rcases hR' with e | ⟨q, e, hq⟩
      · have := gR1.out _ (e ▸ h); omega
      · rw [e] at h; injection h with h; omega, fun i hi h => by
      rcases hR' with e | ⟨q, e, hq⟩
      · have := gR1.out _ (e ▸ hi); have := h3'.out _ h; omega
      · rw [e] at hi; injection hi with hi; have := Rk3.out _ h; omega, fun i hi => by
      have := OB.out i hi
      exact ⟨by omega, fun h => by have := h3'.out _ h; omega⟩⟩)
  have Y1 := hide (show ∀ i, (i = g ∨ some i = R) → w.heap.size < i from fun i hi => by
    rcases hi with hi | hi
    · omega
    · have := g1' i hi.symm; omega)
  have Y2 := hide (show ∀ i, (i = gk ∨ some i = Rk) → w.heap.size < i from fun i hi => by
    rcases hi with hi | hi
    · omega
    · have := h3'.out i hi.symm; omega)
  have HX := hide (fun g R W (h : JAt W g R p) => by have := append_jany g R p ⟨xk, xt, s⟩ W h (by omega); rw [hXX.out] at this; exact this)
  have J3 := hide J3.out.drew
  have Q3 := hide Q3.out.drew
  have O3 := hide (show w3.drew.ownsRow 0 36 3 (.slice B p.length c) p.length (flat p) from O3.out)
  have K3 := hide K3.out.drew
  clear Rk3 gR1 h3' OB g1' g1 gw gl1 h3 hz gk3
  obtain ⟨c0, c1, c2⟩ := K3.out.cells
  go_upto_region 10 with fail
  go_region_held3 (fun w' => w'.cell? ⟨w.heap.size, 0, none⟩ = some (.int .i64 xk) ∧ w'.cell? ⟨w.heap.size, 1, none⟩ = some (.int .i64 xt) ∧ w'.cell? ⟨w.heap.size, 2, none⟩ = some (.string s)) (first | exact K5.out.cells | exact K4.out.cells | exact K3.out.cells) (first
    | (go_at_call 28; (with_reducible refine Calls.mono (HX.out g R _ J3.out) ?_); intro e w4 hh; obtain ⟨rfl, ⟨R', j4, r4⟩, q4, o4, only4⟩ := appends_keep J3.out hh Q3.out X1.out.1 X1.out.2.1 X1.out.2.2.1 X1.out.2.2.2.1 O3.out X1.out.2.2.2.2; have J4 := hide j4; have Q4 := hide q4; have O4 := hide o4; have Z4 := hide (X2.out R' r4); have K4 := hide (show Kp w w.heap.size 36 #[.int .i64 xk, .int .i64 xt, .string s] w4 from ⟨K3.out.1.trans (only4.below K3.out.1.size (fun i hi => Nat.le_of_lt (Y1.out i hi))), only4.blk K3.out.2 (fun hs => Nat.lt_irrefl _ (Y1.out _ hs))⟩); clear hh j4 q4 o4 only4 r4)
    | (go_at_call 28; (with_reducible refine Calls.mono (HX.out gk Rk _ Q4.out) ?_); intro e w5 hh; obtain ⟨rfl, ⟨Rk', q5, r5⟩, j5, o5, only5⟩ := appends_keep Q4.out hh J4.out Z4.out.1 Z4.out.2.1 Z4.out.2.2.1 Z4.out.2.2.2.1 O4.out Z4.out.2.2.2.2; have J5 := hide j5; have Q5 := hide q5; have O5 := hide o5; have K5 := hide (show Kp w w.heap.size 36 #[.int .i64 xk, .int .i64 xt, .string s] w5 from ⟨K4.out.1.trans (only5.below K4.out.1.size (fun i hi => Nat.le_of_lt (Y2.out i hi))), only5.blk K4.out.2 (fun hs => Nat.lt_irrefl _ (Y2.out _ hs))⟩); clear hh j5 q5 o5 only5 r5))
  all_goals (
  have hja := J5.out
  have hka := Q5.out
  have hwa' := Lie.of_own O5.out
  have hba := K5.out.1
  have hjp := more_take p ⟨xk, xt, s⟩
  have hz0 := fun h => more_zero (p := p) (x := ⟨xk, xt, s⟩) h
  have hz1 := fun h => congrArg List.length (more_some (p := p) (x := ⟨xk, xt, s⟩) h)
  generalize more p ⟨xk, xt, s⟩ = p' at hja hka hjp hz0 hz1 J5 Q5
  generalize Jou.err p ⟨xk, xt, s⟩ = er2 at hz0 hz1
  clear J5 Q5 O5 K5 J4 Q4 O4 K4 J3 Q3 O3 K3 c0 c1 c2 X1 X2 Y1 Y2 HX Z4 hXX
  by_cases h0 : er2 = 0
  · subst h0
    have hl1 := hide (hz0 rfl)
    have hp' : p'.length ≤ 4097 := by rw [hl1.out]; omega
    have i1 : (p.length : Int) ≤ (p'.length : Int) := by rw [hl1.out]; omega
    clear hz0 hz1
    have HN := hide hjp
    have JA := hide hja
    have KA := hide hka
    have WA := hide hwa'
    have BA := hide hba
    clear hja hka hwa' hba hjp
    go_upto_region 11 with fail
    go_wp2_with fail
    refine Calls.mono (len_any g p' _ JA.out.read) ?_
    rw [hl1.out]
    rintro e w20 ⟨rfl, rfl⟩
    go_wp2_with fail
    refine Calls.mono (entries_any g p' _ JA.out.read (by omega)) ?_
    rintro e w21 ⟨A21, c21, rfl, o21, b21⟩
    have JB := hide (JA.out.below b21)
    have KB := hide (KA.out.below b21)
    have WB := hide (WA.out.on b21)
    have LB := hide (Lie.of_own o21)
    have BB := hide (chain BA.out b21)
    clear o21 b21 JA KA WA BA
    go_wp2_with fail
    refine Calls.mono (entries_any gk p' _ KB.out.read (by omega)) ?_
    rintro e w22 ⟨A22, c22, rfl, o22, b22⟩
    have JC := hide (JB.out.below b22)
    have WC := hide (WB.out.on b22)
    have LC := hide (LB.out.on b22)
    have LC' := hide (Lie.of_own o22)
    have BC := hide (chain BB.out b22)
    clear o22 b22 JB KB WB BB LB
    go_wp2_with fail
    refine Calls.mono (jsame_any A21 A22 _ _ _ _ p' _ rfl rfl (by omega) LC.out LC'.out) ?_
    rintro e w23 ⟨rfl, b23⟩
    have JD := hide (JC.out.below b23)
    have WD := hide (WC.out.on b23)
    have BD := hide (chain BC.out b23)
    clear b23 JC WC BC LC LC'
    go_wp2_with fail
    refine Calls.mono (entries_any g p' _ JD.out.read (by omega)) ?_
    rintro e w24 ⟨A24, c24, rfl, o24, b24⟩
    have JE := hide (JD.out.below b24)
    have WE := hide (WD.out.on b24)
    have BE := hide (chain BD.out b24)
    clear o24 b24 JD WD BD
    go_wp2_with fail
    refine Calls.mono (entries_any g p' _ JE.out.read (by omega)) ?_
    rintro e w25 ⟨A25, c25, rfl, o25, b25⟩
    have WF := hide (WE.out.on b25)
    have hc25 := own_le' o25
    have LF := lie_flat_take (Lie.of_own o25) p.length
    rw [HN.out] at LF
    have LF := hide LF
    have BF := hide (chain BE.out b25)
    have i0 : (p.length : Int) ≤ (c25 : Int) := by omega
    clear o25 b25 JE WE BE
    go_wp2_with fail
    refine Calls.mono (jsame_any A25 B _ _ _ _ p _ rfl rfl (by omega) LF.out WF.out) ?_
    rintro e w26 ⟨rfl, b26⟩
    have BG := hide (chain BF.out b26)
    clear b26 WF LF BF
    go_wp2_with fail
    refine Calls.mono (example52_any _) ?_
    rintro e w27 ⟨rfl, b27⟩
    go_wp2_with fail
    go_ret
    exact ⟨rfl, chain BG.out b27⟩
  · have hl1 := hide (hz1 h0)
    have hp' : p'.length ≤ 4097 := by rw [hl1.out]; omega
    have i1 : (p.length : Int) ≤ (p'.length : Int) := by rw [hl1.out]; omega
    have hne : ((er2 : Int) == 0) = false := by simp; omega
    clear hz0 hz1 h0
    have HN := hide hjp
    have JA := hide hja
    have KA := hide hka
    have WA := hide hwa'
    have BA := hide hba
    clear hja hka hwa' hba hjp
    go_upto_region 11 with fail
    go_wp2_with fail
    refine Calls.mono (len_any g p' _ JA.out.read) ?_
    rw [hl1.out]
    rintro e w20 ⟨rfl, rfl⟩
    go_wp2_with fail
    refine Calls.mono (entries_any g p' _ JA.out.read (by omega)) ?_
    rintro e w21 ⟨A21, c21, rfl, o21, b21⟩
    have JB := hide (JA.out.below b21)
    have KB := hide (KA.out.below b21)
    have WB := hide (WA.out.on b21)
    have LB := hide (Lie.of_own o21)
    have BB := hide (chain BA.out b21)
    clear o21 b21 JA KA WA BA
    go_wp2_with fail
    refine Calls.mono (entries_any gk p' _ KB.out.read (by omega)) ?_
    rintro e w22 ⟨A22, c22, rfl, o22, b22⟩
    have JC := hide (JB.out.below b22)
    have WC := hide (WB.out.on b22)
    have LC := hide (LB.out.on b22)
    have LC' := hide (Lie.of_own o22)
    have BC := hide (chain BB.out b22)
    clear o22 b22 JB KB WB BB LB
    go_wp2_with fail
    refine Calls.mono (jsame_any A21 A22 _ _ _ _ p' _ rfl rfl (by omega) LC.out LC'.out) ?_
    rintro e w23 ⟨rfl, b23⟩
    have JD := hide (JC.out.below b23)
    have WD := hide (WC.out.on b23)
    have BD := hide (chain BC.out b23)
    clear b23 JC WC BC LC LC'
    go_wp2_with fail
    refine Calls.mono (entries_any g p' _ JD.out.read (by omega)) ?_
    rintro e w24 ⟨A24, c24, rfl, o24, b24⟩
    have JE := hide (JD.out.below b24)
    have WE := hide (WD.out.on b24)
    have BE := hide (chain BD.out b24)
    clear o24 b24 JD WD BD
    go_wp2_with fail
    refine Calls.mono (entries_any g p' _ JE.out.read (by omega)) ?_
    rintro e w25 ⟨A25, c25, rfl, o25, b25⟩
    have WF := hide (WE.out.on b25)
    have hc25 := own_le' o25
    have LF := lie_flat_take (Lie.of_own o25) p.length
    rw [HN.out] at LF
    have LF := hide LF
    have BF := hide (chain BE.out b25)
    have i0 : (p.length : Int) ≤ (c25 : Int) := by omega
    clear o25 b25 JE WE BE
    go_wp2_with fail
    refine Calls.mono (jsame_any A25 B _ _ _ _ p _ rfl rfl (by omega) LF.out WF.out) ?_
    rintro e w26 ⟨rfl, b26⟩
    have BG := hide (chain BF.out b26)
    clear b26 WF LF BF
    go_wp2_with fail
    refine Calls.mono (example52_any _) ?_
    rintro e w27 ⟨rfl, b27⟩
    go_wp2_with fail
    go_ret
    exact ⟨rfl, chain BG.out b27⟩
)

set_option maxRecDepth 100000 in
set_option maxHeartbeats 3200000 in
theorem walk_JournalContinues (a0 : Option Addr) (len0 cap0 : Nat) (z0 : List Int) (x : E) (w : World) (w0 : IsRow .u8 w a0 len0 cap0 z0) (w1 : GoodE x) :
    Calls Try.prog 4 #[.slice a0 len0 cap0, ev x] w fun e w' => e = .returned (.bool true) ∧ Below w.heap.size w w' := by
  obtain ⟨l, rfl, hcap, hA⟩ := row_bytes w0
  clear w0
  by_cases h1 : 4096 < l.length
  · clear hA
    obtain ⟨k, t, s⟩ := x
    obtain ⟨-, -, hs⟩ := w1
    unfold maxLen at hs
    unfold ev
    simp only at hs ⊢
    go_enter Try.func4, Try.ntmps4
    go_wp2_with (go_at_call 21; refine (example52_any _).mono ?_; rintro e w1 ⟨rfl, hb1⟩)
    go_ret
    exact ⟨rfl, chain (below_new _ _) hb1⟩
  by_cases h2 : 1024 < x.s.size
  · clear hA
    obtain ⟨k, t, s⟩ := x
    obtain ⟨-, -, hs⟩ := w1
    unfold maxLen at hs
    unfold ev
    simp only at hs h2 ⊢
    go_enter Try.func4, Try.ntmps4
    go_wp2_with (go_at_call 21; refine (example52_any _).mono ?_; rintro e w1 ⟨rfl, hb1⟩)
    go_ret
    exact ⟨rfl, chain (below_new _ _) hb1⟩
  exact continues_main a0 cap0 l x w (by omega) hcap hA (by omega)
end Go.Proofs.Ytjbdfmniiiaakaa
