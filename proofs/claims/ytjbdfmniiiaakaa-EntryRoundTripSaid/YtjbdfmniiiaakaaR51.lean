/- The walk of the law EntryRoundTrip, for every input. -/
import Derived.Test.YtjbdfmniiiaakaaL51
namespace Go.Proofs.Ytjbdfmniiiaakaa
set_option linter.unusedVariables false
open Go.RowKit
open Ent (E)
open Jou (encJ)

theorem encJ_succ (l : List E) (k : Nat) (hk : k < l.length) : encJ (l.take (k + 1)) = encJ (l.take k) ++ Ent.encE l[k] := by
  rw [List.take_succ_eq_append_getElem hk, Jou.encJ_append]; simp [encJ]
theorem encJ_rest (l : List E) (k : Nat) (hk : k < l.length) : (encJ l).drop (encJ (l.take k)).length = Ent.encE l[k] ++ encJ (l.drop (k + 1)) := by
  have h : encJ l = encJ (l.take k) ++ (Ent.encE l[k] ++ encJ (l.drop (k + 1))) := by
    conv => lhs; rw [← List.take_append_drop k l, Jou.encJ_append, List.drop_eq_getElem_cons hk]
    rfl
  conv => lhs; rw [h]
  rw [List.drop_left]
/-- an entry that the law lets by. -/
def Small (x : E) : Prop := x.s.size ≤ 1024 ∧ Ent.check x = 0
theorem small_len {x : E} (h : Small x) : (Ent.encE x).length ≤ 1100 := by
  obtain ⟨h1, h2⟩ := h
  have n1 := (Bin.enc_len x.k.toNat).2
  have n2 := (Bin.enc_len x.t.toNat).2
  have n3 := (Bin.enc_len x.s.data.toList.length).2
  have : x.s.data.toList.length = x.s.size := by simp
  rw [Ent.encE, Ent.sealed_len, Ent.body, List.length_append, List.length_append]
  unfold Bin.encB
  rw [List.length_append]
  omega
theorem encJ_len (l : List E) (h : ∀ x ∈ l, Small x) : (encJ l).length ≤ l.length * 1100 := by
  induction l with
  | nil => simp [encJ]
  | cons x l ih =>
    have h1 := small_len (h x (by simp))
    have h2 := ih (fun y hy => h y (by simp [hy]))
    rw [encJ, List.length_append, List.length_cons]; omega
theorem small_succ {l : List E} {k : Nat} (hk : k < l.length) (h : ∀ x ∈ l.take k, Small x) (hx : Small l[k]) : ∀ x ∈ l.take (k + 1), Small x := by
  intro y hy
  rw [List.take_succ_eq_append_getElem hk, List.mem_append] at hy
  rcases hy with hy | hy
  · exact h y hy
  · obtain rfl : y = l[k] := by simpa using hy
    exact hx

set_option maxRecDepth 100000 in
set_option maxHeartbeats 6400000 in
theorem roundtrip_main (a0 : Option Addr) (cap : Nat) (l : List E) (w : World) (hl : l.length ≤ 20) (hcap : l.length ≤ cap) (hG : ∀ x ∈ l, GoodE x) (hA : Lie w w.heap.size a0 (flat l)) :
    Calls Try.prog 10 #[.slice a0 l.length cap] w fun e w' => e = .returned (.bool true) ∧ Below w.heap.size w w' := by
  obtain ⟨i0, hi, hz0, hz1, hz2⟩ := info_parts info_b
  have HG := hide hG
  have HA := hide hA
  clear hG hA
  go_enter Try.func10, Try.ntmps10
  go_upto_region 5 with fail
  go_loopw [3, 20] (fun b i wr => ∃ (k : Nat) (M : List UInt8) (B : Option Addr) (c : Nat), k ≤ l.length ∧ i = .int .i64 k ∧ Hid (M = encJ (l.take k)) ∧ b = .slice B M.length c ∧ wr.ownsRow w.heap.size 5 1 (.slice B M.length c) M.length (bytes M) ∧ Hid (∀ x ∈ l.take k, Small x) ∧ Below w.heap.size w wr) (fun _ i _ => l.length - (intOf i).toNat)
  case atStart => exact ⟨0, [], none, 0, by omega, rfl, hide rfl, rfl, own_nil, hide (by simp), Below.refl _ _⟩
  case round =>
    obtain ⟨k, M, B, c, hk, rfl, hM, rfl, hown, hS, hbw⟩ := hrel
    have hMl : M.length ≤ k * 1100 := by
      have := encJ_len _ hS.out
      rw [← hM.out, List.length_take, Nat.min_eq_left hk] at this
      exact this
    by_cases hlt : k < l.length
    · obtain ⟨b, o, rfl, hb, q0, q1, q2⟩ := (HA.out.on hbw).entry k hlt
      have hx := (HG.out l[k] (List.getElem_mem hlt)).2.2
      have hsucc := encJ_succ l k hlt
      rw [← hM.out] at hsucc
      have hSs := fun (h : Small l[k]) => small_succ hlt hS.out h
      have HC := fun (h : Ent.check l[k] = 0) W => (encode_any l[k] W).mono fun _ _ h' => gote_ok h' h
      have HK := fun W => check_any l[k] W
      have hsl := fun (h : Small l[k]) => small_len h
      generalize l[k] = x at q0 q1 q2 hx hsucc hSs HC HK hsl
      obtain ⟨xk, xt, s⟩ := x
      unfold Small at hSs hsl
      unfold ev at HC HK
      unfold maxLen at hx
      simp only at q0 q1 q2 hx HC HK hsl hSs
      have hsucc := hide hsucc
      have hSs' := hide hSs
      have HC' := hide HC
      have HK' := hide HK
      have hsl' := hide hsl
      clear hSs HC HK hsl
      have K1 := hide (Kp.new wr 36 #[.int .i64 xk, .int .i64 xt, .string s])
      have hown := hide hown
      go_upto_region 7 with fail
      have own1 := hide (own_below hown.out K1.out.1)
      have B1 := hide (chain hbw K1.out.1)
      clear hbw q0 q1 q2 hown
      generalize wr.alloc (.cells #[.int .i64 xk, .int .i64 xt, .string s] 36) = wa at *
      obtain ⟨c0, c1, c2⟩ := K1.out.cells
      by_cases hbig : 1024 < s.size
      · go_wp2_with (go_at_call 41; refine Calls.mono (example51_any _) ?_; rintro e w3 ⟨rfl, hb3⟩)
        go_ret
        exact ⟨rfl, chain B1.out hb3⟩
      go_wp2_with fail
      refine Calls.mono (HK'.out _) ?_
      rintro e w2 ⟨rfl, b2⟩
      by_cases hn : Ent.check ⟨xk, xt, s⟩ = 0
      case neg =>
        have hne : ((Ent.check ⟨xk, xt, s⟩ : Int) != 0) = true := by simp; exact hn
        clear hn hSs' HC' hsl'
        go_wp2_with (go_at_call 41; refine Calls.mono (example51_any _) ?_; rintro e w3 ⟨rfl, hb3⟩)
        go_ret
        exact ⟨rfl, chain B1.out (chain b2 hb3)⟩
      have hSs := hide (hSs'.out ⟨by omega, hn⟩)
      have HC := hide (HC'.out hn)
      have hsl := hsl'.out ⟨by omega, hn⟩
      have hne : ((Ent.check ⟨xk, xt, s⟩ : Int) != 0) = false := by rw [hn]; rfl
      have K2 := hide (K1.out.next b2)
      have B2 := hide (chain B1.out b2)
      have own2 := hide (own_below own1.out b2)
      clear hn hSs' HC' hsl' HK' K1 B1 b2 own1 c0 c1 c2
      obtain ⟨c0, c1, c2⟩ := K2.out.cells
      go_wp2_with fail
      refine Calls.mono (HC.out _) ?_
      generalize Ent.encE ⟨xk, xt, s⟩ = N at hsl hsucc
      rintro e w3 ⟨A3, c3, rfl, o3, b3⟩
      have B3 := chain B2.out b3
      have own3 := own_below own2.out b3
      have hNl := hide (bytes_len N)
      clear K2 B2 b3 own2 c0 c1 c2
      go_wp2_with (at_builtin; refine wpList_app rfl (.tmp 46) (.tmp 47) _ rfl w.heap.size 5 i0 _ 1 1 Try.underlying22 hi hz0 hz1 hz2 rfl (by omega) B M.length c (bytes M) rfl own3 w3.heap.size A3 N.length c3 (bytes N) rfl (by rw [hNl.out]; omega) (Lie.of_own o3) (bytes_one _) (by omega) (by unfold maxLen; omega) B3.size w B3 ?_; intro A4 c4 w4 HA4 hb4)
      go_roundw
      case rel =>
        have e : (M ++ N).length = M.length + N.length := List.length_append
        refine ⟨k + 1, M ++ N, A4, c4, by omega, by go_num, hide hsucc.out.symm, by rw [e], ?_, hSs, hb4⟩
        rw [e, bytes_append]
        exact HA4.out.own
      case measure => simp [intOf]; omega
    · obtain rfl : k = l.length := by omega
      have hM' : Hid (M = encJ l) := hide (by have := hM.out; rwa [List.take_length] at this)
      have hS' : Hid (∀ x ∈ l, Small x) := hide (by have := hS.out; rwa [List.take_length] at this)
      have LM := hide (Lie.of_own hown)
      have hMc := own_le hown
      clear hM hS hown hk hlt
      go_upto_region 16 with fail
      obtain ⟨wo, rfl⟩ : ∃ wo : World, wo = wr := ⟨_, rfl⟩
      go_loopw [8, 52] (fun at_ i wQ => ∃ (k a : Nat), k ≤ l.length ∧ i = .int .i64 k ∧ at_ = .int .i64 a ∧ Hid (a = (encJ (l.take k)).length) ∧ Below w.heap.size w wQ ∧ Hid (Below wo.heap.size wo wQ)) (fun _ i _ => l.length - (intOf i).toNat)
      case atStart => exact ⟨0, 0, by omega, rfl, rfl, hide (by simp [encJ]), hbw, hide (Below.refl _ _)⟩
      case round =>
        obtain ⟨k, a, hk, rfl, rfl, ha, hbx, hbr⟩ := hrel
        by_cases hlt : k < l.length
        · obtain ⟨b, o, rfl, hb, q0, q1, q2⟩ := (HA.out.on hbx).entry k hlt
          have hdr := encJ_rest l k hlt
          have hsuc := encJ_succ l k hlt
          rw [← hM'.out, ← ha.out] at hdr
          have hal : a ≤ M.length := by
            have := congrArg List.length hdr
            have h4 := Ent.encE_pos l[k]
            simp only [List.length_drop, List.length_append] at this
            omega
          have hd := Ent.dE_enc M a l[k] _ hal hdr (hS'.out _ (List.getElem_mem hlt)).2
          obtain ⟨_, hnx⟩ := Ent.drop_app hdr hal
          have h4 := Ent.encE_pos l[k]
          have hsuc' := congrArg List.length hsuc
          rw [List.length_append, ← ha.out] at hsuc'
          have HD := fun W (hW : Below wr.heap.size wr W) => decode_any B _ c M a W rfl (by omega) hMc (LM.out.on (chain hbr.out hW))
          rw [hd] at HD
          generalize (Ent.encE l[k]).length = n at HD hnx h4 hsuc'
          generalize l[k] = x at q0 q1 q2 HD
          obtain ⟨xk, xt, s⟩ := x
          unfold GotD ev at HD
          simp only at q0 q1 q2 HD
          have HD' := hide HD
          have hsuc' := hide hsuc'
          clear HD hd hdr hsuc
          have K1 := hide (Kp.new wr 36 #[.int .i64 xk, .int .i64 xt, .string s])
          have g1 : wr.heap.size < (wr.alloc (.cells #[.int .i64 xk, .int .i64 xt, .string s] 36)).heap.size := by simp
          go_upto_region 18 with fail
          clear q0 q1 q2
          generalize wr.alloc (.cells #[.int .i64 xk, .int .i64 xt, .string s] 36) = wa at *
          go_wp2_with fail
          refine Calls.mono (HD'.out _ K1.out.1) ?_
          rintro e w2 ⟨rfl, b2⟩
          have K2 := hide (K1.out.next b2)
          have K4 := hide (K2.out.2.alloc (.cells #[.int .i64 xk, .int .i64 xt, .string s] 36))
          have K3 := hide (Blk.new w2 36 #[.int .i64 xk, .int .i64 xt, .string s])
          have B3 := hide (chain K2.out.1 (below_new w2 (.cells #[.int .i64 xk, .int .i64 xt, .string s] 36)))
          go_upto_region 19 with fail
          clear K1 K2 b2 g1 HD'
          generalize w2.alloc (.cells #[.int .i64 xk, .int .i64 xt, .string s] 36) = wb at *
          obtain ⟨c0, c1, c2⟩ := ev_cells K3.out
          obtain ⟨d0, d1, d2⟩ := ev_cells K4.out
          go_wp2_with fail
          go_roundw
          case rel =>
            exact ⟨k + 1, a + n, by omega, by go_num, by go_num, hide hsuc'.out.symm, chain hbx B3.out, hide (chain hbr.out B3.out)⟩
          case measure => simp [intOf]; omega
        · obtain rfl : k = l.length := by omega
          have e1 : a = M.length := by rw [ha.out, List.take_length, hM'.out]
          subst e1
          clear ha hM' hS' LM hbr
          go_wp2_with (go_at_call 41; refine Calls.mono (example51_any _) ?_; rintro e w3 ⟨rfl, hb3⟩)
          go_ret
          exact ⟨rfl, chain hbx hb3⟩

set_option maxRecDepth 100000 in
set_option maxHeartbeats 800000 in
theorem walk_EntryRoundTrip (a0 : Option Addr) (len0 cap0 : Nat) (l : List E) (w : World) (w0 : IsEnts w a0 len0 cap0 l) :
    Calls Try.prog 10 #[.slice a0 len0 cap0] w fun e w' => e = .returned (.bool true) ∧ Below w.heap.size w w' := by
  obtain ⟨rfl, hcap, hm, hG, hA⟩ := w0
  by_cases h1 : 20 < l.length
  · clear hG hA hm
    go_enter Try.func10, Try.ntmps10
    go_wp2_with (go_at_call 41; refine (example51_any _).mono ?_; rintro e w1 ⟨rfl, hb1⟩)
    go_ret
    exact ⟨rfl, hb1⟩
  · exact roundtrip_main a0 cap0 l w (by omega) hcap hG hA
end Go.Proofs.Ytjbdfmniiiaakaa
