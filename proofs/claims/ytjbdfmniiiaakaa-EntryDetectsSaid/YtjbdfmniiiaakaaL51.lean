/- The walks of the laws EntryChecks, EntryEncodes, EntryUnique and EntryCuts, for every input. -/
import Derived.Test.YtjbdfmniiiaakaaEx51
import Derived.Test.YtjbdfmniiiaakaaFlat
import Derived.Test.YtjbdfmniiiaakaaRenc
import Derived.Deep.RegionWith
import Derived.Deep.RegionHeld3
namespace Go.Proofs.Ytjbdfmniiiaakaa
set_option linter.unusedVariables false
open Go.RowKit

set_option maxRecDepth 100000 in
set_option maxHeartbeats 3200000 in
theorem walk_EntryChecks (x : Ent.E) (w : World) (hx : GoodE x) :
    Calls Try.prog 7 #[ev x] w fun e w' => e = .returned (.bool true) ∧ Below w.heap.size w w' := by
  have HC := hide (fun W => check_any x W)
  have HR := hide (fun W => refcheck_any x W)
  generalize Ent.check x = n at HC HR
  obtain ⟨k, t, s⟩ := x
  clear hx
  unfold ev at *
  simp only at HC HR ⊢
  have hK := hide (Kp.new w 36 #[.int .i64 k, .int .i64 t, .string s])
  go_enter Try.func7, Try.ntmps7
  go_upto_region 1 with fail
  generalize w.alloc (.cells #[.int .i64 k, .int .i64 t, .string s] 36) = wa at *
  obtain ⟨c0, c1, c2⟩ := hK.out.cells
  have K0 := hide hK.out.drew
  go_region_held3 (fun w' => w'.cell? ⟨w.heap.size, 0, none⟩ = some (.int .i64 k) ∧ w'.cell? ⟨w.heap.size, 1, none⟩ = some (.int .i64 t) ∧ w'.cell? ⟨w.heap.size, 2, none⟩ = some (.string s)) (first | exact K3.out.cells | exact K2.out.cells | exact K1.out.cells | exact K0.out.cells)
    (first
    | (go_at_call 39; refine Calls.mono (HC.out _) ?_; rintro e w1 ⟨rfl, hb1⟩; (first | have K1 := hide (K2.out.next hb1) | have K1 := hide (K0.out.next hb1)); clear hb1)
    | (go_at_call 40; refine Calls.mono (HR.out _) ?_; rintro e w2 ⟨rfl, hb2⟩; (first | have K2 := hide (K1.out.next hb2) | have K2 := hide (K0.out.next hb2)); clear hb2)
    | (go_at_call 41; refine Calls.mono (example51_any _) ?_; rintro e w3 ⟨rfl, hb3⟩; (first | have K3 := hide (K1.out.next hb3) | have K3 := hide (K2.out.next hb3)); clear hb3))
  all_goals (go_wp2_with fail; go_ret; exact ⟨rfl, K3.out.1⟩)

/-- Encode's answer, whatever the entry. -/
def EncAns (w : World) (n : Nat) (M : List UInt8) (e : Ending) (w' : World) : Prop :=
  ∃ A c, e = .returned (.tuple #[.slice A M.length c, .int .i64 (n : Nat)]) ∧ M.length ≤ c ∧ Lie w' w'.heap.size A (bytes M) ∧ Below w.heap.size w w'
def encM (x : Ent.E) : List UInt8 := if Ent.check x = 0 then Ent.encE x else []
theorem own_le {w : World} {base e size n c : Nat} {A : Option Addr} {xs : List Value} (h : w.ownsRow base e size (.slice A n c) n xs) : n ≤ c := by
  rcases h.2 with ⟨h1, h2⟩ | ⟨g, cap, cur, hv, hg, hh, h1, h2, _⟩
  · omega
  · simp only [Value.slice.injEq] at hv
    obtain ⟨-, -, rfl⟩ := hv
    exact h1
theorem enc_ans {w w' : World} {x : Ent.E} {e : Ending} (h : GotE w x e w') : EncAns w (Ent.check x) (encM x) e w' := by
  unfold encM
  by_cases hc : Ent.check x = 0
  · obtain ⟨A, c, he, ho, hb⟩ := gote_ok h hc
    rw [if_pos hc, hc]
    exact ⟨A, c, he, own_le ho, Lie.of_own ho, hb⟩
  · obtain ⟨he, hb⟩ := gote_err h (by omega)
    rw [if_neg hc]
    exact ⟨none, 0, he, Nat.le_refl _, Lie.none_, hb⟩

set_option maxRecDepth 100000 in
set_option maxHeartbeats 3200000 in
theorem walk_EntryEncodes (x : Ent.E) (w : World) (hx : GoodE x) :
    Calls Try.prog 8 #[ev x] w fun e w' => e = .returned (.bool true) ∧ Below w.heap.size w w' := by
  have HC := hide (fun W => (encode_any x W).mono fun _ _ h => enc_ans h)
  have HR := hide (fun W => (refencode_any x W).mono fun _ _ h => enc_ans h)
  generalize Ent.check x = n at HC HR
  generalize encM x = M at HC HR
  obtain ⟨k, t, s⟩ := x
  obtain ⟨-, -, hs⟩ := hx
  unfold maxLen at hs
  unfold ev at *
  simp only at HC HR hs ⊢
  have hK := hide (Kp.new w 36 #[.int .i64 k, .int .i64 t, .string s])
  have hM : (M == M) = true := by simp
  have hM := hide hM
  by_cases hbig : 131072 < s.size
  · go_enter Try.func8, Try.ntmps8
    go_wp2_with (go_at_call 41; refine Calls.mono (example51_any _) ?_; rintro e w3 ⟨rfl, hb3⟩)
    go_ret
    exact ⟨rfl, chain (below_new _ _) hb3⟩
  go_enter Try.func8, Try.ntmps8
  go_upto_region 3 with fail
  generalize w.alloc (.cells #[.int .i64 k, .int .i64 t, .string s] 36) = wa at *
  obtain ⟨c0, c1, c2⟩ := hK.out.cells
  go_wp2_with fail
  refine Calls.mono (HC.out _) ?_
  rintro e w1 ⟨A1, c1', rfl, q1, L1, b1⟩
  have K1 := hide (hK.out.next b1)
  have L1 := hide L1
  clear b1 c0 c1 c2 hK
  obtain ⟨c0, c1, c2⟩ := K1.out.cells
  go_wp2_with fail
  refine Calls.mono (HR.out _) ?_
  rintro e w2 ⟨A2, c2', rfl, q2, L2, b2⟩
  have K2 := hide (K1.out.next b2)
  have L2 := hide L2
  have L1 := hide (L1.out.on b2)
  clear b2 c0 c1 c2 K1
  go_wp2_with fail
  refine Calls.mono (same_any _ _ _ _ _ _ M M _ rfl rfl L1.out L2.out) ?_
  rw [hM.out]
  rintro e w3 ⟨rfl, rfl⟩
  go_wp2_with fail
  refine Calls.mono (example51_any _) ?_
  rintro e w4 ⟨rfl, b4⟩
  go_wp2_with fail
  go_ret
  exact ⟨rfl, chain K2.out.1 b4⟩

theorem enc_size (x : Ent.E) (hc : Ent.check x = 0) : (Ent.encE x).length ≤ 100000 := by
  obtain ⟨_, _, _, h⟩ := Ent.kt_lt hc
  have n1 := (Bin.enc_len x.k.toNat).2
  have n2 := (Bin.enc_len x.t.toNat).2
  have n3 := (Bin.enc_len x.s.data.toList.length).2
  rw [Ent.encE, Ent.sealed_len, Ent.body, List.length_append, List.length_append]
  unfold Bin.encB
  rw [List.length_append]
  omega

/-- what a valid entry's encoding has to do with a byte string that holds it. -/
theorem dE_good (l : List UInt8) (a : Int) (h : (Ent.dE l a).e = 0) (h4 : l.length ≤ 1000000) : Ent.check (Ent.dE l a).v = 0 ∧ 0 ≤ a ∧ a < (Ent.dE l a).next ∧ (Ent.dE l a).next ≤ l.length ∧ (l.drop a.toNat).take ((Ent.dE l a).next - a.toNat) = Ent.encE (Ent.dE l a).v := by
  obtain ⟨h1, h2, h3, h5, h6⟩ := Ent.dE_ok l a h
  exact ⟨h5, h1, by omega, h3, h6⟩

set_option maxRecDepth 100000 in
set_option maxHeartbeats 3200000 in
theorem unique_ok (A : Option Addr) (cap : Nat) (l : List UInt8) (a : Nat) (v : Ent.E) (x : Nat) (w : World) (hl : l.length ≤ 4096) (hcap : l.length ≤ cap) (hA : Lie w w.heap.size A (bytes l)) (hd : Ent.dE l a = ⟨v, x, 0⟩) (hv : Ent.check v = 0) (h1 : a < x) (h2 : x ≤ l.length) (hs : (l.drop a).take (x - a) = Ent.encE v) :
    Calls Try.prog 11 #[.slice A l.length cap, .int .i64 a] w fun e w' => e = .returned (.bool true) ∧ Below w.heap.size w w' := by
  have HD := hide (decode_any A _ cap l a w rfl (by omega) hcap hA)
  rw [hd] at HD
  obtain ⟨b, o, rfl, -, -⟩ := hA (by rw [bytes_len]; omega)
  have hP := hide (lie_at hA a (x - a))
  rw [hs] at hP
  have HC := hide (fun W => (encode_any v W).mono fun _ _ h => gote_ok h hv)
  have hn : (Ent.encE v).length = x - a := by rw [← hs]; simp; omega
  rw [hn] at HC
  have hM : (Ent.encE v == Ent.encE v) = true := by simp
  generalize Ent.encE v = M at *
  have hM := hide hM
  have hn := hide hn
  clear hs hA hd hv
  obtain ⟨k, t, s⟩ := v
  unfold ev at HC
  unfold GotD ev at HD
  simp only at HC HD
  go_enter Try.func11, Try.ntmps11
  go_wp2_with fail
  refine Calls.mono HD.out ?_
  rintro e w1 ⟨rfl, b1⟩
  have K1 := hide (Kp.new w1 36 #[.int .i64 k, .int .i64 t, .string s])
  go_upto_region 4 with fail
  have B1 := hide (chain b1 K1.out.1)
  clear b1
  generalize w1.alloc (.cells #[.int .i64 k, .int .i64 t, .string s] 36) = wa at *
  obtain ⟨c0, c1, c2⟩ := K1.out.cells
  go_wp2_with fail
  refine Calls.mono (HC.out _) ?_
  rintro e w2 ⟨A2, c2', rfl, o2, b2⟩
  have B2 := hide (chain B1.out b2)
  have L2 := hide (Lie.of_own o2)
  have P2 := hide (hP.out.on B2.out)
  clear b2 c0 c1 c2 K1 B1 o2
  go_wp2_with fail
  refine Calls.mono (same_any _ _ _ _ _ _ M M _ hn.out.symm hn.out.symm L2.out P2.out) ?_
  rw [hM.out]
  rintro e w3 ⟨rfl, rfl⟩
  go_wp2_with fail
  refine Calls.mono (example51_any _) ?_
  rintro e w4 ⟨rfl, b4⟩
  go_wp2_with fail
  go_ret
  exact ⟨rfl, chain B2.out b4⟩

set_option maxRecDepth 100000 in
set_option maxHeartbeats 3200000 in
theorem unique_bad (A : Option Addr) (cap : Nat) (l : List UInt8) (a : Int) (w : World) (hl : l.length ≤ 4096) (hcap : l.length ≤ cap) (hA : Lie w w.heap.size A (bytes l)) (hd : (Ent.dE l a).e ≠ 0) :
    Calls Try.prog 11 #[.slice A l.length cap, .int .i64 a] w fun e w' => e = .returned (.bool true) ∧ Below w.heap.size w w' := by
  have HD := hide (decode_any A _ cap l a w rfl (by omega) hcap hA)
  generalize Ent.dE l a = G at HD hd
  obtain ⟨⟨k, t, s⟩, x, er⟩ := G
  have hne : ((er : Int) != 0) = true := by simp; exact hd
  unfold GotD ev at HD
  simp only at HD
  clear hA hd
  go_enter Try.func11, Try.ntmps11
  go_wp2_with fail
  refine Calls.mono HD.out ?_
  rintro e w1 ⟨rfl, b1⟩
  go_wp2_with fail
  refine Calls.mono (example51_any _) ?_
  rintro e w4 ⟨rfl, b4⟩
  go_wp2_with fail
  go_ret
  exact ⟨rfl, chain b1 (chain (below_new _ _) b4)⟩

set_option maxRecDepth 100000 in
set_option maxHeartbeats 3200000 in
theorem walk_EntryUnique (a0 : Option Addr) (len0 cap0 : Nat) (z0 : List Int) (a1 : Int) (w : World) (w0 : IsRow .u8 w a0 len0 cap0 z0) (w1 : (Lit.int .i64 a1).wf = true) :
    Calls Try.prog 11 #[.slice a0 len0 cap0, .int .i64 a1] w fun e w' => e = .returned (.bool true) ∧ Below w.heap.size w w' := by
  obtain ⟨l, rfl, hcap, hA⟩ := row_bytes w0
  clear w0 w1
  by_cases h1 : 4096 < l.length
  · go_enter Try.func11, Try.ntmps11
    go_wp2_with (go_at_call 41; refine (example51_any _).mono ?_; rintro e w1 ⟨rfl, hb1⟩)
    go_ret
    exact ⟨rfl, hb1⟩
  by_cases hd : (Ent.dE l a1).e = 0
  · obtain ⟨h2, h3, h4, h5, h6⟩ := dE_good l a1 hd (by omega)
    obtain ⟨a, rfl⟩ : ∃ n : Nat, a1 = (n : Int) := ⟨a1.toNat, by omega⟩
    exact unique_ok a0 cap0 l a _ _ w (by omega) hcap hA (by rw [← hd]) h2 (by omega) h5 h6
  · exact unique_bad a0 cap0 l a1 w (by omega) hcap hA hd

set_option maxRecDepth 100000 in
set_option maxHeartbeats 3200000 in
theorem cuts_ok (x : Ent.E) (cut : Nat) (w : World) (hs : x.s.size ≤ 4096) (hc : Ent.check x = 0) (hcut : cut < (Ent.encE x).length) :
    Calls Try.prog 12 #[ev x, .int .i64 cut] w fun e w' => e = .returned (.bool true) ∧ Below w.heap.size w w' := by
  have HC := hide (fun W => (encode_any x W).mono fun _ _ h => gote_ok h hc)
  have hD : Ent.dE ((Ent.encE x).take cut) 0 = ⟨Ent.E0, 0, 4⟩ := Ent.dE_cut ((Ent.encE x).take cut) 0 x cut (by simp) rfl hc hcut
  have hlen : (Ent.encE x).length ≤ 100000 := enc_size x hc
  generalize Ent.encE x = M at *
  obtain ⟨k, t, s⟩ := x
  unfold ev at *
  simp only at HC hs ⊢
  have hK := hide (Kp.new w 36 #[.int .i64 k, .int .i64 t, .string s])
  have hD := hide hD
  clear hc
  go_enter Try.func12, Try.ntmps12
  go_upto_region 1 with fail
  generalize w.alloc (.cells #[.int .i64 k, .int .i64 t, .string s] 36) = wa at *
  obtain ⟨c0, c1, c2⟩ := hK.out.cells
  go_wp2_with fail
  refine Calls.mono (HC.out _) ?_
  rintro e w1 ⟨A1, c1', rfl, o1, b1⟩
  have B1 := hide (chain hK.out.1 b1)
  obtain ⟨g, rfl, -, -, hc1, -⟩ := own_some o1 (by omega)
  have L1 := hide (lie_take (Lie.of_own o1) cut)
  clear b1 c0 c1 c2 hK o1
  go_wp2_with fail
  refine Calls.mono (decode_any _ _ _ (M.take cut) 0 _ (by rw [List.length_take]; omega) (by rw [List.length_take]; omega) (by omega) L1.out) ?_
  rw [hD.out]
  rintro e w2 ⟨rfl, b2⟩
  unfold ev Ent.E0
  go_wp2_with fail
  refine Calls.mono (example51_any _) ?_
  rintro e w4 ⟨rfl, b4⟩
  go_wp2_with fail
  go_ret
  exact ⟨rfl, chain (chain B1.out b2) (chain (below_new _ _) b4)⟩

set_option maxRecDepth 100000 in
set_option maxHeartbeats 3200000 in
theorem walk_EntryCuts (x : Ent.E) (a1 : Int) (w : World) (hx : GoodE x) (w1 : (Lit.int .i64 a1).wf = true) :
    Calls Try.prog 12 #[ev x, .int .i64 a1] w fun e w' => e = .returned (.bool true) ∧ Below w.heap.size w w' := by
  by_cases hbig : 4096 < x.s.size
  · obtain ⟨k, t, s⟩ := x
    obtain ⟨-, -, hs⟩ := hx
    unfold maxLen at hs
    unfold ev
    simp only at hs hbig ⊢
    go_enter Try.func12, Try.ntmps12
    go_wp2_with (go_at_call 41; refine Calls.mono (example51_any _) ?_; rintro e w3 ⟨rfl, hb3⟩)
    go_ret
    exact ⟨rfl, chain (below_new _ _) hb3⟩
  by_cases hgo : Ent.check x = 0 ∧ 0 ≤ a1 ∧ a1 < (Ent.encE x).length
  · obtain ⟨cut, rfl⟩ : ∃ n : Nat, a1 = (n : Int) := ⟨a1.toNat, by omega⟩
    exact cuts_ok x cut w (by omega) hgo.1 (by omega)
  have HC := hide (fun W => (encode_any x W).mono fun _ _ h => enc_ans h)
  have hout : Ent.check x ≠ 0 ∨ a1 < 0 ∨ ((encM x).length : Int) ≤ a1 := by
    unfold encM
    by_cases hc : Ent.check x = 0
    · rw [if_pos hc]; omega
    · exact .inl hc
  generalize Ent.check x = n at HC hout
  generalize encM x = M at HC hout
  obtain ⟨k, t, s⟩ := x
  clear hgo hx
  unfold ev at *
  simp only at HC hbig ⊢
  have hK := hide (Kp.new w 36 #[.int .i64 k, .int .i64 t, .string s])
  have fin : ∀ n', n' = n → True := fun _ _ => trivial
  clear fin
  go_enter Try.func12, Try.ntmps12
  go_upto_region 1 with fail
  generalize w.alloc (.cells #[.int .i64 k, .int .i64 t, .string s] 36) = wa at *
  obtain ⟨c0, c1, c2⟩ := hK.out.cells
  go_wp2_with fail
  refine Calls.mono (HC.out _) ?_
  rintro e w1 ⟨A1, c1', rfl, q1, L1, b1⟩
  have B1 := hide (chain hK.out.1 b1)
  clear b1 c0 c1 c2 hK L1
  by_cases hn : n = 0
  · subst hn
    by_cases ha : a1 < 0
    · go_wp2_with (go_at_call 41; refine Calls.mono (example51_any _) ?_; rintro e w3 ⟨rfl, hb3⟩)
      go_ret
      exact ⟨rfl, chain B1.out hb3⟩
    · have hge : (M.length : Int) ≤ a1 := by omega
      go_wp2_with (go_at_call 41; refine Calls.mono (example51_any _) ?_; rintro e w3 ⟨rfl, hb3⟩)
      go_ret
      exact ⟨rfl, chain B1.out hb3⟩
  · have hne : ((n : Int) != 0) = true := by simp; exact hn
    clear hn hout
    go_wp2_with (go_at_call 41; refine Calls.mono (example51_any _) ?_; rintro e w3 ⟨rfl, hb3⟩)
    go_ret
    exact ⟨rfl, chain B1.out hb3⟩
end Go.Proofs.Ytjbdfmniiiaakaa
