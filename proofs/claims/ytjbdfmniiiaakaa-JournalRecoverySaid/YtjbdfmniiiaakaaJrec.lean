/- The journal's Recover and Load: the journal of the entries at the beginning of a byte string of at most 1000000 bytes. -/
import Derived.Test.YtjbdfmniiiaakaaJap
import Derived.Test.YtjbdfmniiiaakaaDec
import Derived.WalkMore
namespace Go.Proofs.Ytjbdfmniiiaakaa
set_option linter.unusedVariables false
open Go.RowKit
open Ent (E)

theorem recF_len (n : Nat) (b : List UInt8) (p : List E) (a : Nat) (hp : p.length ≤ a) (ha : a ≤ b.length) : (Jou.recF n b p a).1.length ≤ b.length := by
  induction n generalizing p a with
  | zero => simp [Jou.recF]; omega
  | succ n ih =>
    by_cases h1 : a < b.length
    · by_cases h2 : (Ent.dE b a).e = 0
      · by_cases h3 : Jou.err p (Ent.dE b a).v = 0
        · obtain ⟨_, d2, d3, _⟩ := Ent.dE_ok b a h2
          simp only [Int.toNat_natCast] at d2
          rw [Jou.recF_go n b p a h1 h2 h3]
          exact ih _ _ (by simp; omega) d3
        · rw [Jou.recF_err n b p a h1 h2 h3]; simp; omega
      · rw [Jou.recF_dec n b p a h1 h2]; simp; omega
    · rw [Jou.recF_stop n b p a (by omega)]; simp; omega
/-- one round, by the whole recovery. -/
theorem rec_stop {b : List UInt8} {p : List E} {a : Nat} (h : Jou.recover b = Jou.recF (b.length + 1) b p a) (ha : b.length ≤ a) : Jou.recover b = (p, a, 0) := by
  rw [h, Jou.recF_stop _ _ _ _ ha]
theorem rec_dec {b : List UInt8} {p : List E} {a : Nat} (h : Jou.recover b = Jou.recF (b.length + 1) b p a) (ha : a < b.length) (h2 : (Ent.dE b a).e ≠ 0) : Jou.recover b = (p, a, (Ent.dE b a).e) := by
  rw [h, Jou.recF_dec _ _ _ _ ha h2]
theorem rec_err {b : List UInt8} {p : List E} {a : Nat} (h : Jou.recover b = Jou.recF (b.length + 1) b p a) (ha : a < b.length) (h2 : (Ent.dE b a).e = 0) (h3 : Jou.err p (Ent.dE b a).v ≠ 0) : Jou.recover b = (p, a, Jou.err p (Ent.dE b a).v) := by
  rw [h, Jou.recF_err _ _ _ _ ha h2 h3]
theorem rec_go {b : List UInt8} {p : List E} {a : Nat} (h : Jou.recover b = Jou.recF (b.length + 1) b p a) (ha : a < b.length) (h2 : (Ent.dE b a).e = 0) (h3 : Jou.err p (Ent.dE b a).v = 0) :
    Jou.recover b = Jou.recF (b.length + 1) b (p ++ [(Ent.dE b a).v]) (Ent.dE b a).next ∧ a < (Ent.dE b a).next ∧ (Ent.dE b a).next ≤ b.length := by
  obtain ⟨_, d2, d3, _⟩ := Ent.dE_ok b a h2
  simp only [Int.toNat_natCast] at d2
  refine ⟨?_, d2, d3⟩
  rw [h, Jou.recF_go _ _ _ _ ha h2 h3]
  exact Jou.recF_more _ _ _ _ _ (by omega) (by omega)

/-- what Recover hands back. -/
def GotR (w : World) (r : List E × Nat × Nat) (e : Ending) (w' : World) : Prop :=
  ∃ g R, e = .returned (.tuple #[.pointer (some ⟨g, 0, none⟩), .int .i64 (r.2.1 : Nat), .int .i64 (r.2.2 : Nat)]) ∧ JAt w' g R r.1 ∧ Below w.heap.size w w' ∧ w.heap.size ≤ g ∧ (∀ i, R = some i → w.heap.size ≤ i)
theorem gotr_mk {w w' : World} {g a e : Nat} {R : Option Nat} {p : List E} {r : List E × Nat × Nat} (h : r = (p, a, e)) (hJ : JAt w' g R p) (hb : Below w.heap.size w w') (hg : w.heap.size ≤ g) (hR : ∀ i, R = some i → w.heap.size ≤ i) :
    GotR w r (.returned (.tuple #[.pointer (some ⟨g, 0, none⟩), .int .i64 (a : Nat), .int .i64 (e : Nat)])) w' := by
  subst h; exact ⟨g, R, rfl, hJ, hb, hg, hR⟩

set_option maxRecDepth 100000 in
set_option maxHeartbeats 6400000 in
theorem recover_any (A : Option Addr) (n cap : Nat) (l : List UInt8) (w : World) (hn : n = l.length) (hl : l.length ≤ 1000000) (hcap : n ≤ cap) (hA : Lie w w.heap.size A (bytes l)) :
    Calls Try.prog 22 #[.slice A n cap] w (GotR w (Jou.recover l)) := by
  subst hn
  have HD := hide (fun W (hb : Below w.heap.size w W) (a : Nat) => decode_any A _ cap l a W rfl hl hcap (hA.on hb))
  obtain ⟨r, hr⟩ : ∃ r, Hid (r = Jou.recover l) := ⟨_, hide rfl⟩
  rw [← hr.out]
  have h0 : Hid (r = Jou.recF (l.length + 1) l [] 0) := hide (by rw [hr.out]; rfl)
  obtain ⟨i0, hi, hz0, hz1, hz2⟩ := info_parts info_e
  clear hA
  go_enter Try.func22, Try.ntmps22
  go_wp2_with fail
  go_step3
  go_wp2_with fail
  refine Calls.mono (new_any _) ?_
  rintro e w1 ⟨rfl, hJ1, hb1⟩
  go_wp2_with fail
  go_step3
  go_upto_region 4 with fail
  go_loopw [6, 7] (fun at_ rs wr => ∃ (a : Nat) (p : List E) (R : Option Nat), a ≤ l.length ∧ p.length ≤ a ∧ at_ = .int .i64 a ∧ rs = .int .i64 0 ∧ Hid (r = Jou.recF (l.length + 1) l p a) ∧ Hid (JAt wr w.heap.size R p) ∧ Below w.heap.size w wr ∧ Hid (∀ i, R = some i → w.heap.size ≤ i)) (fun at_ _ _ => l.length - (intOf at_).toNat)
  case atStart => exact ⟨0, [], none, by omega, by simp, rfl, rfl, h0, hide hJ1, hb1, hide (fun i hi => by cases hi)⟩
  case round =>
    obtain ⟨a, p, R, ha, hp, rfl, rfl, hrec, hJ, hbw, hR⟩ := hrel
    have hrec0 : Jou.recover l = Jou.recF (l.length + 1) l p a := by rw [← hr.out]; exact hrec.out
    by_cases hlt : a < l.length
    case neg =>
      have hs := hide (rec_stop hrec0 (by omega))
      clear hrec hrec0 HD
      go_wp2_with fail
      (try rw [Exit.noGoto_ret])
      go_ret3
      exact gotr_mk (e := 0) (hr.out.trans hs.out) hJ.out hbw (Nat.le_refl _) hR.out
    have HDa := HD.out wr hbw a
    have q1 := fun h => rec_dec hrec0 hlt h
    have q2 := fun h h' => rec_err hrec0 hlt h h'
    have q3 := fun h h' => rec_go hrec0 hlt h h'
    generalize Ent.dE l a = G at HDa q1 q2 q3
    obtain ⟨⟨k, t, s⟩, x, er⟩ := G
    unfold GotD ev at HDa
    simp only at HDa q1 q2 q3
    have HDa' := hide HDa
    have q1' := hide q1
    have q2' := hide q2
    have q3' := hide q3
    clear HDa q1 q2 q3 hrec hrec0 HD
    go_wp2_with fail
    refine Calls.mono HDa'.out ?_
    rintro e w2 ⟨rfl, b2⟩
    have K2 := hide (Kp.new w2 36 #[.int .i64 k, .int .i64 t, .string s])
    have hJ2 := hide (hJ.out.below b2)
    have hb2 := hide (chain hbw b2)
    clear HDa' hJ b2
    go_upto_region 6 with fail
    have hJ3 := hide (hJ2.out.below K2.out.1)
    have hb3 := hide (chain hb2.out K2.out.1)
    clear hJ2
    generalize w2.alloc (.cells #[.int .i64 k, .int .i64 t, .string s] 36) = wa at *
    by_cases he : er = 0
    case neg =>
      have hne : ((er : Int) == 0) = false := by simp; omega
      have hne2 : ((er : Int) != 0) = true := by simp; omega
      have hs := hide (q1'.out he)
      clear he q1' q2' q3'
      go_wp2_with fail
      (try rw [Exit.noGoto_ret])
      go_ret3
      exact gotr_mk (hr.out.trans hs.out) hJ3.out hb3.out (Nat.le_refl _) hR.out
    subst he
    obtain ⟨c0, c1, c2⟩ := K2.out.cells
    have HR := hide (refuse_any w.heap.size p ⟨k, t, s⟩ wa hJ3.out.read (by omega))
    unfold ev at HR
    go_upto_region 8 with fail
    refine Calls.mono HR.out ?_
    rintro e w3 ⟨rfl, b3⟩
    clear HR c0 c1 c2
    have K3 := hide (K2.out.next b3)
    have hJ4 := hide (hJ3.out.below b3)
    have hb4 := hide (chain hb3.out b3)
    clear hJ3 K2 hb3 b3
    generalize hee : Jou.err p ⟨k, t, s⟩ = er2 at q2' q3'
    by_cases h2 : er2 = 0
    case neg =>
      have hne2 : ((er2 : Int) != 0) = true := by simp; omega
      have hs := hide (q2'.out trivial h2)
      clear h2 hee q1' q2' q3'
      go_wp2_with fail
      (try rw [Exit.noGoto_ret])
      go_ret3
      exact gotr_mk (hr.out.trans hs.out) hJ4.out hb4.out (Nat.le_refl _) hR.out
    subst h2
    obtain ⟨s1, s2, s3⟩ := q3'.out trivial rfl
    have s1' := hide s1
    obtain ⟨A2, c2, hB', ho', hR'⟩ := hJ4.out
    have hne := hide hJ4.out.ne
    have hB := hide hB'
    have ho := hide ho'
    have hRo := hide hR'
    have c0 : w3.cell? ⟨w.heap.size, 0, none⟩ = some (.slice A2 p.length c2) := hB'.cell 0
    have n0 : ∀ o, (w3.alloc o).cell? ⟨w.heap.size, 0, none⟩ = some (.slice A2 p.length c2) := fun o => (hB'.alloc o).cell 0
    have n1 : ∀ o, (w3.drew.alloc o).cell? ⟨w.heap.size, 0, none⟩ = some (.slice A2 p.length c2) := fun o => ((show Blk w3.drew w.heap.size _ _ from hB').alloc o).cell 0
    obtain ⟨d0, d1, d2⟩ := K3.out.cells
    clear hB' ho' hR' q1' q2' q3' s1 hee
    go_upto_region 10 with fail
    go_region_law (first
      | (refine step_app (by rfl) (.tmp 35) (.tmp 37) _ (by rfl) 0 36 i0 _ 3 32 Try.underlying32 hi hz0 hz1 hz2 rfl (by omega) A2 p.length c2 (flat p) (by rfl) (ho.out.alloc _) _ (some ⟨w3.heap.size, 0, none⟩) 1 1 (ecells ⟨k, t, s⟩) (by rfl) rfl (Lie.new w3.drew (ecells ⟨k, t, s⟩) 36) (flat_mem [⟨k, t, s⟩]) (by omega) (by unfold maxLen; omega) (Nat.zero_le _) w3 (Below.mono (B := w3.heap.size) ((Below.refl _ _).drew.alloc (Nat.le_refl _) _) (Nat.zero_le _)) ?_
         intro A3 c3 w4 HA3 hb5
         have hB3 := (Only.of_grown HA3.out.grown).blk (hB.out.alloc _) (by rw [hRo.out]; exact fun he => hne.out he.symm)
         have e3 : w4.cell? ⟨w.heap.size, 0, none⟩ = some (.slice A2 p.length c2) := hB3.cell 0
         have f3 := hB3.free 0
         clear hB3))
    all_goals (
      have hG := hide (grows_mk (W := (w3.alloc (.cells #[.int .i64 k, .int .i64 t, .string s] 36)).drew) (w := w3) ((below_new w3 _).drew) (hB.out.alloc _) hRo.out hne.out HA3.out)
      clear e3 f3 c0 n0 n1 d0 d1 d2
      go_wp2_with fail
      obtain ⟨R', g1, g2, g3⟩ := hG.out
      refine ⟨⟨x, p ++ [⟨k, t, s⟩], R', s3, by simp; omega, rfl, rfl, hide (hr.out.trans s1'.out), hide g1, hb4.out.trans (g2.below hb4.out.size (fun i hi => ?_)), hide (fun i hi => ?_)⟩, by simp [intOf]; omega⟩
      · rcases hi with hi | hi
        · omega
        · exact hR.out i hi.symm
      · rcases g3 with g3 | ⟨q, g3, g4⟩
        · exact hR.out i (by rw [← g3]; exact hi)
        · have := hb4.out.size
          rw [g3] at hi
          injection hi with hi
          omega)

/-- what Load hands back. -/
def GotLd (w : World) (r : List E × Nat × Nat) (e : Ending) (w' : World) : Prop :=
  (0 < r.2.2 ∧ e = .returned (.tuple #[.pointer none, .int .i64 (r.2.2 : Nat)]) ∧ Below w.heap.size w w') ∨
  (r.2.2 = 0 ∧ ∃ g R, e = .returned (.tuple #[.pointer (some ⟨g, 0, none⟩), .int .i64 0]) ∧ JAt w' g R r.1 ∧ Below w.heap.size w w' ∧ w.heap.size ≤ g ∧ (∀ i, R = some i → w.heap.size ≤ i))

set_option maxRecDepth 100000 in
set_option maxHeartbeats 3200000 in
theorem load_any (A : Option Addr) (n cap : Nat) (l : List UInt8) (w : World) (hn : n = l.length) (hl : l.length ≤ 1000000) (hcap : n ≤ cap) (hA : Lie w w.heap.size A (bytes l)) :
    Calls Try.prog 24 #[.slice A n cap] w (GotLd w (Jou.recover l)) := by
  have HR := hide (recover_any A n cap l w hn hl hcap hA)
  generalize Jou.recover l = r at HR ⊢
  obtain ⟨p, a, er⟩ := r
  clear hA hn
  go_enter Try.func24, Try.ntmps24
  go_wp2_with fail
  refine Calls.mono HR.out ?_
  rintro e w1 ⟨g, R, rfl, h1, h2, h3, h4⟩
  by_cases he : er = 0
  · subst he
    have h1 := hide h1
    go_wp2_with fail
    go_ret2
    exact .inr ⟨rfl, g, R, rfl, h1.out, h2, h3, h4⟩
  · have hne : ((er : Int) != 0) = true := by simp; omega
    go_wp2_with fail
    go_ret2
    exact .inl ⟨by simp only; omega, rfl, h2⟩
end Go.Proofs.Ytjbdfmniiiaakaa
