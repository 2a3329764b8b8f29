/- The journal's Bytes and Truncate: the encodings of its entries one after the other; its first entries. -/
import Derived.Test.YtjbdfmniiiaakaaJo
namespace Go.Proofs.Ytjbdfmniiiaakaa
set_option linter.unusedVariables false
open Go.RowKit
open Ent (E)
open Jou (encJ)

theorem encJ_snoc (l : List E) (k : Nat) (hk : k < l.length) : encJ (l.take (k + 1)) = encJ (l.take k) ++ Ent.encE l[k] := by
  rw [List.take_succ_eq_append_getElem hk, Jou.encJ_append]; simp [encJ]
theorem encE_size (x : E) (hc : Ent.check x = 0) : (Ent.encE x).length ≤ 100000 := by
  obtain ⟨_, _, _, h⟩ := Ent.kt_lt hc
  have n1 := (Bin.enc_len x.k.toNat).2
  have n2 := (Bin.enc_len x.t.toNat).2
  have n3 := (Bin.enc_len x.s.data.toList.length).2
  rw [Ent.encE, Ent.sealed_len, Ent.body, List.length_append, List.length_append]
  unfold Bin.encB
  rw [List.length_append]
  omega
theorem encJ_size (l : List E) (h : ∀ x ∈ l, Ent.check x = 0) : (encJ l).length ≤ l.length * 100000 := by
  induction l with
  | nil => simp [encJ]
  | cons x l ih =>
    have h1 := encE_size x (h x (by simp))
    have h2 := ih (fun y hy => h y (by simp [hy]))
    rw [encJ, List.length_append, List.length_cons]; omega

set_option maxRecDepth 100000 in
set_option maxHeartbeats 3200000 in
theorem jbytes_any (g : Nat) (l : List E) (w : World) (h : JR w g l) (hOk : ∀ x ∈ l, Ent.check x = 0) (hl : l.length ≤ 5000) : Calls Try.prog 23 #[.pointer (some ⟨g, 0, none⟩)] w (Gives w (encJ l)) := by
  obtain ⟨A, cap, h1, h2, h3⟩ := h
  have c0 : w.cell? ⟨g, 0, none⟩ = some (.slice A l.length cap) := h1.cell 0
  obtain ⟨i0, hi, hz0, hz1, hz2⟩ := info_parts info_b
  have HA := hide h3
  have HO := hide hOk
  clear h1 h3 hOk
  go_enter Try.func23, Try.ntmps23
  go_upto_region 5 with fail
  clear c0
  go_loopw [3, 15] (fun b i wr => ∃ (k : Nat) (M : List UInt8) (B : Option Addr) (c : Nat), k ≤ l.length ∧ i = .int .i64 k ∧ Hid (M = encJ (l.take k)) ∧ b = .slice B M.length c ∧ wr.ownsRow w.heap.size 5 1 (.slice B M.length c) M.length (bytes M) ∧ Below w.heap.size w wr) (fun _ i _ => l.length - (intOf i).toNat)
  case atStart => exact ⟨0, [], none, 0, by omega, rfl, hide rfl, rfl, own_nil, Below.refl _ _⟩
  case round =>
    obtain ⟨k, M, B, c, hk, rfl, hM, rfl, hown, hbw⟩ := hrel
    have hMl : M.length ≤ k * 100000 := by
      have := encJ_size (l.take k) (fun x hx => HO.out x (List.mem_of_mem_take hx))
      rw [← hM.out, List.length_take, Nat.min_eq_left hk] at this
      exact this
    by_cases hlt : k < l.length
    · obtain ⟨b, o, rfl, hb, q0, q1, q2⟩ := (HA.out.on hbw).entry k hlt
      have hsucc := encJ_snoc l k hlt
      rw [← hM.out] at hsucc
      have hc := HO.out l[k] (List.getElem_mem hlt)
      have hsl := encE_size l[k] hc
      have HC := fun W => (encode_any l[k] W).mono fun _ _ h' => gote_ok h' hc
      generalize l[k] = x at q0 q1 q2 hsucc HC hsl
      obtain ⟨xk, xt, s⟩ := x
      unfold ev at HC
      simp only at q0 q1 q2 HC
      have hsucc' := hide hsucc
      have HC' := hide HC
      have hown' := hide hown
      have K1 := hide (Kp.new wr 36 #[.int .i64 xk, .int .i64 xt, .string s])
      clear hsucc HC hown hc
      go_upto_region 7 with fail
      have own1 := hide (own_below hown'.out K1.out.1)
      have B1 := hide (chain hbw K1.out.1)
      clear hbw q0 q1 q2 hown'
      generalize wr.alloc (.cells #[.int .i64 xk, .int .i64 xt, .string s] 36) = wa at *
      obtain ⟨c0, c1, c2⟩ := K1.out.cells
      go_wp2_with fail
      refine Calls.mono (HC'.out _) ?_
      generalize Ent.encE ⟨xk, xt, s⟩ = N at hsl hsucc'
      rintro e w3 ⟨A3, c3, rfl, o3, b3⟩
      have B3 := chain B1.out b3
      have own3 := own_below own1.out b3
      have hNl := hide (bytes_len N)
      clear K1 B1 b3 own1 c0 c1 c2
      go_wp2_with (at_builtin; refine wpList_app rfl (.tmp 24) (.tmp 25) _ rfl w.heap.size 5 i0 _ 1 1 Try.underlying22 hi hz0 hz1 hz2 rfl (by omega) B M.length c (bytes M) rfl own3 w3.heap.size A3 N.length c3 (bytes N) rfl (by rw [hNl.out]; omega) (Lie.of_own o3) (bytes_one _) (by omega) (by unfold maxLen; omega) B3.size w B3 ?_; intro A4 c4 w4 HA4 hb4)
      go_roundw
      case rel =>
        have e : (M ++ N).length = M.length + N.length := List.length_append
        refine ⟨k + 1, M ++ N, A4, c4, by omega, by go_num, hide hsucc'.out.symm, by rw [e], ?_, hb4⟩
        rw [e, bytes_append]
        exact HA4.out.own
      case measure => simp [intOf]; omega
    · obtain rfl : k = l.length := by omega
      have hM' : Hid (M = encJ l) := hide (by have := hM.out; rwa [List.take_length] at this)
      clear hM
      go_wp2_with fail
      go_ret
      rw [← hM'.out]
      exact ⟨B, c, rfl, hown, hbw⟩
set_option maxRecDepth 100000 in
theorem jbytes_nil (w : World) : Calls Try.prog 23 #[.pointer none] w fun e w' => e = .returned (.slice none 0 0) ∧ w = w' := by
  go_enter Try.func23, Try.ntmps23
  go_wp2_with fail
  go_ret
  exact ⟨rfl, rfl⟩

set_option maxRecDepth 100000 in
set_option maxHeartbeats 3200000 in
theorem truncate_no (g : Nat) (l : List E) (n : Int) (w : World) (h : JR w g l) (hn : n < 0 ∨ (l.length : Int) < n) : Calls Try.prog 54 #[.pointer (some ⟨g, 0, none⟩), .int .i64 n] w fun e w' => e = .returned (.int .i64 2) ∧ w = w' := by
  obtain ⟨A, c, h1, h2, h3⟩ := h
  have c0 : w.cell? ⟨g, 0, none⟩ = some (.slice A l.length c) := h1.cell 0
  clear h1 h3
  by_cases h0 : n < 0
  · clear hn
    go_enter Try.func54, Try.ntmps54
    go_wp2_with fail
    go_ret
    exact ⟨rfl, rfl⟩
  · have h4 : (l.length : Int) < n := by omega
    clear hn
    go_enter Try.func54, Try.ntmps54
    go_wp2_with fail
    go_ret
    exact ⟨rfl, rfl⟩
set_option maxRecDepth 100000 in
theorem truncate_nil (n : Int) (w : World) : Calls Try.prog 54 #[.pointer none, .int .i64 n] w fun e w' => e = .returned (.int .i64 40) ∧ w = w' := by
  go_enter Try.func54, Try.ntmps54
  go_wp2_with fail
  go_ret
  exact ⟨rfl, rfl⟩
theorem lie_set {w : World} {g B : Nat} {t : TypeId} {A A' : Option Addr} {n c : Nat} {l : List E} (hB : Blk w g t #[.slice A' n c]) (hL : Lie w B A (flat l)) (u : Value) : Lie (w.setCell ⟨g, 0, none⟩ u) B A (flat l) := fun hp => by
  obtain ⟨b, o, h1, h2, h3⟩ := hL hp
  refine ⟨b, o, h1, h2, fun j v hv => ?_⟩
  have hne : b ≠ g := by
    rintro rfl
    rcases l with _ | ⟨x, r⟩
    · simp [flat] at hp
    · have h4 := h3 0 (.int .i64 x.k) (by simp [flat, ecells])
      rw [hB.cell] at h4
      rcases o with _ | o
      · simp at h4
      · simp at h4
  rw [World.cell?_setCell_other w ⟨g, 0, none⟩ ⟨b, o + j, none⟩ u (fun e => hne (by simp only [Addr.mk.injEq] at e; exact e.1.symm))]
  exact h3 j v hv
set_option maxRecDepth 100000 in
set_option maxHeartbeats 3200000 in
theorem truncate_yes (g : Nat) (l : List E) (n : Nat) (w : World) (h : JR w g l) (hn : n ≤ l.length) (hl : l.length ≤ 1000000) : Calls Try.prog 54 #[.pointer (some ⟨g, 0, none⟩), .int .i64 n] w fun e w' => e = .returned (.int .i64 0) ∧ JR w' g (l.take n) ∧ Only w w' (· = g) := by
  obtain ⟨A, c, h1, h2, h3⟩ := h
  have c0 : w.cell? ⟨g, 0, none⟩ = some (.slice A l.length c) := h1.cell 0
  have f0 := h1.free 0
  have hnc : n ≤ c := by omega
  have hB := hide h1
  have hL := hide h3
  clear h1 h3
  go_enter Try.func54, Try.ntmps54
  go_wp2_with fail
  go_ret
  have hlen : (l.take n).length = n := by rw [List.length_take, Nat.min_eq_left hn]
  refine ⟨rfl, ⟨A, n, by rw [hlen]; exact hB.out.store 0 _, by rw [hlen]; exact Nat.le_refl _, ?_⟩, (Only.refl w (· = g)).setCell (p := ⟨g, 0, none⟩) (.inl rfl) _⟩
  rw [show (w.setCell ⟨g, 0, none⟩ (.slice A n n)).heap.size = w.heap.size by simp [World.setCell]]
  exact lie_set hB.out (lie_flat_take hL.out n) _
end Go.Proofs.Ytjbdfmniiiaakaa
