/- The reference's Error, Bytes and Recover on journals, for every list of entries of at most 1000000 (5000 for Bytes) and every byte string of at most 4096 bytes. -/
import Derived.Test.YtjbdfmniiiaakaaJby
import Derived.Test.YtjbdfmniiiaakaaJrec
import Derived.Test.YtjbdfmniiiaakaaRdec
import Derived.Test.YtjbdfmniiiaakaaRenc
namespace Go.Proofs.Ytjbdfmniiiaakaa
set_option linter.unusedVariables false
open Go.RowKit
open Ent (E)
open Jou (encJ)

set_option maxRecDepth 100000 in
set_option maxHeartbeats 3200000 in
theorem referr_bad (A : Option Addr) (c : Nat) (l : List E) (x : E) (w : World) (hc : Ent.check x ≠ 0) :
    Calls Try.prog 50 #[.slice A l.length c, ev x] w fun e w' => e = .returned (.int .i64 (Jou.err l x : Nat)) ∧ Below w.heap.size w w' := by
  rw [err_check_ne hc]
  have HC := (fun W => refcheck_any x W)
  have hne : ((Ent.check x : Int) != 0) = true := by simp; exact hc
  generalize Ent.check x = n at HC hne ⊢
  obtain ⟨k, t, s⟩ := x
  unfold ev at *
  simp only at HC
  have HC' := hide HC
  clear hc HC
  go_enter Try.func50, Try.ntmps50
  go_wp2_with fail
  refine Calls.mono (HC'.out _) ?_
  rintro e w1 ⟨rfl, b1⟩
  go_wp2_with fail
  go_ret
  exact ⟨rfl, chain (below_new _ _) b1⟩

set_option maxRecDepth 100000 in
set_option maxHeartbeats 3200000 in
theorem referr_nil (A : Option Addr) (c : Nat) (x : E) (w : World) (hc : Ent.check x = 0) :
    Calls Try.prog 50 #[.slice A 0 c, ev x] w fun e w' => e = .returned (.int .i64 (Jou.err [] x : Nat)) ∧ Below w.heap.size w w' := by
  rw [err_nil hc]
  have HC := (fun W => refcheck_any x W)
  rw [hc] at HC
  obtain ⟨k, t, s⟩ := x
  unfold ev at *
  simp only at HC
  have HC' := hide HC
  have hK := hide (Kp.new w 36 #[.int .i64 k, .int .i64 t, .string s])
  clear hc HC
  go_enter Try.func50, Try.ntmps50
  go_wp2_with fail
  generalize w.alloc (.cells #[.int .i64 k, .int .i64 t, .string s] 36) = wa at *
  refine Calls.mono (HC'.out _) ?_
  rintro e w1 ⟨rfl, b1⟩
  have K1 := hide (hK.out.next b1)
  obtain ⟨d0, d1, d2⟩ := K1.out.cells
  clear b1 hK
  go_upto_region 4 with fail
  go_quiet (fail)
  go_wp2_with fail
  go_ret
  exact ⟨rfl, below_dn K1.out.1 _⟩

set_option maxRecDepth 100000 in
set_option maxHeartbeats 6400000 in
theorem referr_last (A : Option Addr) (c : Nat) (p : List E) (y x : E) (w : World) (hA : Lie w w.heap.size A (flat (p ++ [y]))) (hl : p.length ≤ 1000000) (hc : Ent.check x = 0) :
    Calls Try.prog 50 #[.slice A (p.length + 1) c, ev x] w fun e w' => e = .returned (.int .i64 (Jou.err (p ++ [y]) x : Nat)) ∧ Below w.heap.size w w' := by
  have HC := (fun W => refcheck_any x W)
  rw [hc] at HC
  have q1 := fun h1 => err_order (p := p) (y := y) hc h1
  have q2 := fun h1 h2 => err_limit (p := p) (y := y) hc h1 h2
  have q3 := fun h1 h2 => err_zero (p := p) (y := y) hc h1 h2
  obtain ⟨k, t, s⟩ := x
  unfold ev at *
  simp only at HC q1 q2 q3
  generalize Jou.err (p ++ [y]) ⟨k, t, s⟩ = er at q1 q2 q3 ⊢
  have HC' := hide HC
  have q1' := hide q1
  have q2' := hide q2
  have q3' := hide q3
  have hK := hide (Kp.new w 36 #[.int .i64 k, .int .i64 t, .string s])
  have hJ := hide hA
  obtain ⟨b, o, rfl, -, -⟩ := hA.entry p.length (by simp)
  clear hA hc HC q1 q2 q3
  go_enter Try.func50, Try.ntmps50
  go_wp2_with fail
  generalize w.alloc (.cells #[.int .i64 k, .int .i64 t, .string s] 36) = wa at *
  refine Calls.mono (HC'.out _) ?_
  rintro e w1 ⟨rfl, b1⟩
  have K1 := hide (hK.out.next b1)
  obtain ⟨b', o', hbo, hb, -, e1, -⟩ := (hJ.out.on K1.out.1).entry p.length (by simp)
  simp only [Option.some.injEq, Addr.mk.injEq, and_true] at hbo
  obtain ⟨rfl, rfl⟩ := hbo
  rw [List.getElem_append_right (Nat.le_refl _)] at e1
  simp only [Nat.sub_self, List.getElem_cons_zero] at e1
  obtain ⟨d0, d1, d2⟩ := K1.out.cells
  generalize y.t = yt at *
  generalize p.length = n at *
  clear b1 hK hJ
  go_upto_region 4 with fail
  have i1 : (0 : Int) < (n : Int) + 1 := by omega
  have i2 : IntKind.i64.wrap ((n : Int) + 1 - 1) = (n : Int) := by rw [IntWalk.i64_in _ (by omega)]; omega
  by_cases h4 : t < yt
  · have h5 := hide (q1'.out h4)
    clear q1' q2' q3'
    go_quiet (fail)
    clear i2
    go_wp2_with fail
    go_ret
    exact ⟨by rw [h5.out]; rfl, below_dn K1.out.1 _⟩
  · by_cases h6 : 4096 ≤ n + 1
    · have h5 := hide (q2'.out (by omega) (by omega))
      clear q1' q2' q3'
      go_quiet (fail)
      clear i2
      go_wp2_with fail
      go_ret
      exact ⟨by rw [h5.out]; rfl, below_dn K1.out.1 _⟩
    · have h5 := hide (q3'.out (by omega) (by omega))
      clear q1' q2' q3'
      go_quiet (fail)
      clear i2
      go_wp2_with fail
      go_ret
      exact ⟨by rw [h5.out]; rfl, below_dn K1.out.1 _⟩

theorem referr_any (A : Option Addr) (n c : Nat) (l : List E) (x : E) (w : World) (hn : n = l.length) (hA : Lie w w.heap.size A (flat l)) (hl : l.length ≤ 1000000) :
    Calls Try.prog 50 #[.slice A n c, ev x] w fun e w' => e = .returned (.int .i64 (Jou.err l x : Nat)) ∧ Below w.heap.size w w' := by
  subst hn
  by_cases hc : Ent.check x = 0
  · rcases List.eq_nil_or_concat l with rfl | ⟨p, y, rfl⟩
    · exact referr_nil A c x w hc
    · rw [List.concat_eq_append] at hA hl ⊢
      have e : (p ++ [y]).length = p.length + 1 := by simp
      rw [e] at hl ⊢
      exact referr_last A c p y x w hA (by omega) hc
  · exact referr_bad A c l x w hc

set_option maxRecDepth 100000 in
set_option maxHeartbeats 3200000 in
theorem refjbytes_any (A : Option Addr) (n cap : Nat) (l : List E) (w : World) (hn : n = l.length) (hA : Lie w w.heap.size A (flat l)) (hOk : ∀ x ∈ l, Ent.check x = 0) (hl : l.length ≤ 5000) : Calls Try.prog 51 #[.slice A n cap] w (Gives w (encJ l)) := by
  subst hn
  obtain ⟨i0, hi, hz0, hz1, hz2⟩ := info_parts info_b
  have HA := hide hA
  have HO := hide hOk
  clear hA hOk
  go_enter Try.func51, Try.ntmps51
  go_wp2_with fail
  go_loopw [3, 4] (fun b i wr => ∃ (k : Nat) (M : List UInt8) (B : Option Addr) (c : Nat), k ≤ l.length ∧ i = .int .i64 k ∧ Hid (M = encJ (l.take k)) ∧ b = .slice B M.length c ∧ wr.ownsRow w.heap.size 5 1 (.slice B M.length c) M.length (bytes M) ∧ Below w.heap.size w wr) (fun _ i _ => l.length - (intOf i).toNat)
  case atStart => exact ⟨0, [], none, 0, by omega, rfl, hide rfl, rfl, own_nil, Below.refl _ _⟩
  case round =>
    obtain ⟨k, M, B, c, hk, rfl, hM, rfl, hown, hbw⟩ := hrel
    have hMl : M.length ≤ k * 100000 := by
      have := encJ_size (l.take k) (fun x hx => HO.out x (List.mem_of_mem_take hx))
      rw [← hM.out, List.length_take, Nat.min_eq_left hk] at this
      exact this
    by_cases hlt : k < l.length
    · obtain ⟨b, o, rfl, hb, q0, q1, q2⟩ := (HA.out.on hbw).entry k hlt
      have hsucc := encJ_snoc l k hlt
      rw [← hM.out] at hsucc
      have hc := HO.out l[k] (List.getElem_mem hlt)
      have hsl := encE_size l[k] hc
      have HC := fun W => (refencode_any l[k] W).mono fun _ _ h' => gote_ok h' hc
      generalize l[k] = x at q0 q1 q2 hsucc HC hsl
      obtain ⟨xk, xt, s⟩ := x
      unfold ev at HC
      simp only at q0 q1 q2 HC
      have hsucc' := hide hsucc
      have HC' := hide HC
      have hown' := hide hown
      clear hsucc HC hown hc
      go_wp2_with fail
      refine Calls.mono (HC'.out _) ?_
      generalize Ent.encE ⟨xk, xt, s⟩ = N at hsl hsucc'
      rintro e w3 ⟨A3, c3, rfl, o3, b3⟩
      have B3 := chain hbw b3
      have own3 := own_below hown'.out b3
      have hNl := hide (bytes_len N)
      clear hbw b3 hown' q0 q1 q2
      go_wp2_with (at_builtin; refine wpList_app rfl (.tmp 21) (.tmp 22) _ rfl w.heap.size 5 i0 _ 1 1 Try.underlying22 hi hz0 hz1 hz2 rfl (by omega) B M.length c (bytes M) rfl own3 w3.heap.size A3 N.length c3 (bytes N) rfl (by rw [hNl.out]; omega) (Lie.of_own o3) (bytes_one _) (by omega) (by unfold maxLen; omega) B3.size w B3 ?_; intro A4 c4 w4 HA4 hb4)
      go_roundw
      case rel =>
        have e : (M ++ N).length = M.length + N.length := List.length_append
        refine ⟨k + 1, M ++ N, A4, c4, by omega, by go_num, hide hsucc'.out.symm, by rw [e], ?_, hb4⟩
        rw [e, bytes_append]
        exact HA4.out.own
      case measure => simp [intOf]; omega
    · obtain rfl : k = l.length := by omega
      have hM' : Hid (M = encJ l) := hide (by have := hM.out; rwa [List.take_length] at this)
      clear hM
      go_wp2_with fail
      go_ret
      rw [← hM'.out]
      exact ⟨B, c, rfl, hown, hbw⟩
end Go.Proofs.Ytjbdfmniiiaakaa
