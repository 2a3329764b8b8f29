/- The reference's Recover: the entries at the beginning of a byte string of at most 4096 bytes, the number of their bytes, the reason. -/
import Derived.Test.YtjbdfmniiiaakaaJref
import Derived.Test.YtjbdfmniiiaakaaJen
namespace Go.Proofs.Ytjbdfmniiiaakaa
set_option linter.unusedVariables false
open Go.RowKit
open Ent (E)

/-- what the reference's Recover hands back. -/
def GotRR (w : World) (r : List E × Nat × Nat) (e : Ending) (w' : World) : Prop :=
  ∃ B d, e = .returned (.tuple #[.slice B r.1.length d, .int .i64 (r.2.1 : Nat), .int .i64 (r.2.2 : Nat)]) ∧ w'.ownsRow w.heap.size 36 3 (.slice B r.1.length d) r.1.length (flat r.1) ∧ Below w.heap.size w w'
theorem gotrr_mk {w w' : World} {a e d : Nat} {B : Option Addr} {p : List E} {r : List E × Nat × Nat} (h : r = (p, a, e)) (ho : w'.ownsRow w.heap.size 36 3 (.slice B p.length d) p.length (flat p)) (hb : Below w.heap.size w w') :
    GotRR w r (.returned (.tuple #[.slice B p.length d, .int .i64 (a : Nat), .int .i64 (e : Nat)])) w' := by
  subst h; exact ⟨B, d, rfl, ho, hb⟩

set_option maxRecDepth 100000 in
set_option maxHeartbeats 6400000 in
theorem refrecover_any (A : Option Addr) (n cap : Nat) (l : List UInt8) (w : World) (hn : n = l.length) (hl : l.length ≤ 4096) (hcap : n ≤ cap) (hA : Lie w w.heap.size A (bytes l)) :
    Calls Try.prog 55 #[.slice A n cap] w (GotRR w (Jou.recover l)) := by
  subst hn
  have HD := hide (fun W (hb : Below w.heap.size w W) (a : Nat) => refdecode_any A _ cap l a W rfl (by omega) hcap (hA.on hb))
  obtain ⟨r, hr⟩ : ∃ r, Hid (r = Jou.recover l) := ⟨_, hide rfl⟩
  rw [← hr.out]
  have h0 : Hid (r = Jou.recF (l.length + 1) l [] 0) := hide (by rw [hr.out]; rfl)
  obtain ⟨i0, hi, hz0, hz1, hz2⟩ := info_parts info_e
  clear hA
  go_enter Try.func55, Try.ntmps55
  go_wp2_with fail
  go_loopw [5, 6, 7] (fun v at_ i wr => ∃ (a : Nat) (p : List E) (B : Option Addr) (d : Nat), a ≤ l.length ∧ p.length ≤ a ∧ v = .slice B p.length d ∧ at_ = .int .i64 a ∧ i = .int .i64 p.length ∧ Hid (r = Jou.recF (l.length + 1) l p a) ∧ Hid (wr.ownsRow w.heap.size 36 3 (.slice B p.length d) p.length (flat p)) ∧ Below w.heap.size w wr) (fun _ at_ _ _ => l.length - (intOf at_).toNat)
  case atStart => exact ⟨0, [], none, 0, by omega, by simp, rfl, rfl, rfl, h0, hide own_nil, Below.refl _ _⟩
  case round =>
    obtain ⟨a, p, B, d, ha, hp, rfl, rfl, rfl, hrec, ho, hbw⟩ := hrel
    have hrec0 : Jou.recover l = Jou.recF (l.length + 1) l p a := by rw [← hr.out]; exact hrec.out
    have hp4 : (p.length : Int) ≤ 4096 := by omega
    by_cases hlt : a < l.length
    case neg =>
      have hs := hide (rec_stop hrec0 (by omega))
      clear hrec hrec0 HD
      go_wp2_with fail
      go_ret3
      exact gotrr_mk (e := 0) (hr.out.trans hs.out) ho.out hbw
    have HDa := HD.out wr hbw a
    have q1 := fun h => rec_dec hrec0 hlt h
    have q2 := fun h h' => rec_err hrec0 hlt h h'
    have q3 := fun h h' => rec_go hrec0 hlt h h'
    generalize Ent.dE l a = G at HDa q1 q2 q3
    obtain ⟨⟨k, t, s⟩, x, er⟩ := G
    unfold GotD ev at HDa
    simp only at HDa q1 q2 q3
    have HDa' := hide HDa
    have q1' := hide q1
    have q2' := hide q2
    have q3' := hide q3
    clear HDa q1 q2 q3 hrec hrec0 HD
    go_wp2_with fail
    refine Calls.mono HDa'.out ?_
    rintro e w2 ⟨rfl, b2⟩
    have K2 := hide (Kp.new w2 36 #[.int .i64 k, .int .i64 t, .string s])
    have ho2 := hide (own_below ho.out b2)
    have hb2 := hide (chain hbw b2)
    clear HDa' ho b2
    go_upto_region 7 with fail
    have ho3 := hide (own_below ho2.out K2.out.1)
    have hb3 := hide (chain hb2.out K2.out.1)
    clear ho2
    generalize w2.alloc (.cells #[.int .i64 k, .int .i64 t, .string s] 36) = wa at *
    by_cases he : er = 0
    case neg =>
      have hne : ((er : Int) == 0) = false := by simp; omega
      have hne2 : ((er : Int) != 0) = true := by simp; omega
      have hs := hide (q1'.out he)
      clear he q1' q2' q3'
      go_wp2_with fail
      go_ret3
      exact gotrr_mk (hr.out.trans hs.out) ho3.out hb3.out
    subst he
    obtain ⟨c0, c1, c2⟩ := K2.out.cells
    have HR := hide (referr_any B _ d p ⟨k, t, s⟩ wa rfl (Lie.of_own ho3.out) (by omega))
    unfold ev at HR
    go_upto_region 9 with fail
    refine Calls.mono HR.out ?_
    rintro e w3 ⟨rfl, b3⟩
    clear HR c0 c1 c2
    have K3 := hide (K2.out.next b3)
    have ho4 := hide (own_below ho3.out b3)
    have hb4 := chain hb3.out b3
    clear ho3 K2 hb3 b3
    generalize hee : Jou.err p ⟨k, t, s⟩ = er2 at q2' q3'
    by_cases h2 : er2 = 0
    case neg =>
      have hne2 : ((er2 : Int) != 0) = true := by simp; omega
      have hs := hide (q2'.out trivial h2)
      clear h2 hee q1' q2' q3'
      go_wp2_with fail
      go_ret3
      exact gotrr_mk (hr.out.trans hs.out) ho4.out hb4
    subst h2
    obtain ⟨s1, s2, s3⟩ := q3'.out trivial rfl
    have s1' := hide s1
    have hflx := hide (flat_one (E.mk k t s))
    obtain ⟨d0, d1, d2⟩ := K3.out.cells
    clear q1' q2' q3' s1 hee
    go_wp2_with (at_builtin; refine wpList_app rfl (.tmp 38) (.tmp 40) _ rfl w.heap.size 36 i0 _ 3 32 Try.underlying32 hi hz0 hz1 hz2 rfl (by omega) B p.length d (flat p) rfl (ho4.out.alloc _) _ (some ⟨w3.heap.size, 0, none⟩) 1 1 (ecells ⟨k, t, s⟩) rfl rfl (Lie.new w3 (ecells ⟨k, t, s⟩) 36) (flat_mem [⟨k, t, s⟩]) (by omega) (by unfold maxLen; omega) (by have := hb4.size; simp; omega) w (hb4.alloc hb4.size _) ?_; intro A4 c4 w4 HA4 hb5)
    go_roundw
    case rel =>
      have e : (p ++ [E.mk k t s]).length = p.length + 1 := by simp
      refine ⟨x, p ++ [⟨k, t, s⟩], A4, c4, s3, by rw [e]; omega, by rw [e], rfl, by rw [e]; go_num, hide (hr.out.trans s1'.out), hide ?_, hb5⟩
      rw [e, flat_append, hflx.out]
      exact HA4.out.own
    case measure => simp [intOf]; omega
end Go.Proofs.Ytjbdfmniiiaakaa
