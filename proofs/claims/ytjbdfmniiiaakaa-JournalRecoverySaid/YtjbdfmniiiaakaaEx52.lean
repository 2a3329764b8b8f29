/- exampleHolds of the laws on layer 52 returns true. No condition. -/
import Derived.Test.YtjbdfmniiiaakaaJlaw
import Derived.Test.YtjbdfmniiiaakaaJrr
namespace Go.Proofs.Ytjbdfmniiiaakaa
set_option linter.unusedVariables false
open Go.RowKit
open Ent (E)
open Jou (encJ)

def eA : E := ⟨1, 300, ⟨#[65]⟩⟩
def eB : E := ⟨1, 300, ⟨#[66]⟩⟩
def eO : E := ⟨1, 299, ⟨#[]⟩⟩
theorem x52_a : Jou.err [] eA = 0 := by decide
theorem x52_o : Jou.err [eA] eO = 8 := by decide
theorem x52_b : Jou.err [eA] eB = 0 := by decide
theorem x52_c : ∀ x ∈ [eA], Ent.check x = 0 := by decide
theorem x52_c2 : ∀ x ∈ [eA, eB], Ent.check x = 0 := by decide
theorem x52_l1 : (encJ [eA]).length = 9 := by kernel_rfl
theorem x52_l2 : (encJ [eA, eB]).length = 18 := by kernel_rfl
theorem x52_r : Jou.recover (encJ [eA, eB]) = ([eA, eB], 18, 0) := by
  have h : Jou.Ok [] [eA, eB] := ⟨x52_a, x52_b, trivial⟩
  rw [Jou.recover_enc _ h, x52_l2]
theorem x52_t : Jou.recover ((encJ [eA, eB]).take 17) = ([eA], 9, 4) := by
  have h : Jou.Ok [] [eA, eB] := ⟨x52_a, x52_b, trivial⟩
  obtain ⟨m, h1, h2, h3, h4, h5⟩ := Jou.recover_cut [eA, eB] 17 (by rw [x52_l2]; omega) h
  have e0 : (encJ ([eA, eB].take 0)).length = 0 := rfl
  have e1 : (encJ ([eA, eB].take 1)).length = 9 := x52_l1
  have e2 : (encJ ([eA, eB].take 2)).length = 18 := x52_l2
  have hm : m = 0 ∨ m = 1 ∨ m = 2 := by simp at h1; omega
  rcases hm with rfl | rfl | rfl
  · have := h4 (by simp); rw [e1] at this; omega
  · rw [h2, e1]; rfl
  · rw [e2] at h3; omega
theorem gives_lit {w w' : World} {l : List UInt8} {n : Nat} {e : Ending} (h : Gives w l e w') (hn : l.length = n) :
    ∃ A c, e = .returned (.slice A n c) ∧ n ≤ c ∧ Lie w' w'.heap.size A (bytes l) ∧ Below w.heap.size w w' := by
  subst hn
  obtain ⟨A, c, he, ho, hb⟩ := h
  exact ⟨A, c, he, own_le' ho, Lie.of_own ho, hb⟩
theorem givesE_lit {w w' : World} {l : List E} {n : Nat} {e : Ending} (h : GivesE w l e w') (hn : l.length = n) :
    ∃ A c, e = .returned (.slice A n c) ∧ n ≤ c ∧ Lie w' w'.heap.size A (flat l) ∧ Below w.heap.size w w' := by
  subst hn
  obtain ⟨A, c, he, ho, hb⟩ := h
  exact ⟨A, c, he, own_le' ho, Lie.of_own ho, hb⟩
theorem appends_no {w w' : World} {g n : Nat} {R : Option Nat} {l : List E} {x : E} {e : Ending} (h : Appends w g R l x e w') (hn : Jou.err l x = n) (h0 : 0 < n) : e = .returned (.int .i64 (n : Nat)) ∧ Below w.heap.size w w' := by
  obtain ⟨h1, h2⟩ := h
  rcases h2 with ⟨h2, h3⟩ | ⟨h2, h3⟩
  · exact ⟨by rw [← hn]; exact h1, h3⟩
  · omega
theorem appends_yes {w w' : World} {g : Nat} {R : Option Nat} {l : List E} {x : E} {e : Ending} (h : Appends w g R l x e w') (hn : Jou.err l x = 0) : e = .returned (.int .i64 0) ∧ Grows w w' g R (l ++ [x]) := by
  obtain ⟨h1, h2⟩ := h
  rcases h2 with ⟨h2, h3⟩ | ⟨h2, h3⟩
  · omega
  · exact ⟨by rw [hn] at h1; exact h1, h3⟩
/-- a journal all of whose blocks are from B on. -/
def JB (w : World) (B g : Nat) (l : List E) : Prop := B ≤ g ∧ ∃ R, JAt w g R l ∧ (∀ i, R = some i → B ≤ i)
theorem JB.read {w : World} {B g : Nat} {l : List E} (h : JB w B g l) : JR w g l := by obtain ⟨_, R, h1, _⟩ := h; exact h1.read
theorem JB.below {w w' : World} {B g : Nat} {l : List E} (h : JB w B g l) (hb : Below w.heap.size w w') : JB w' B g l := by
  obtain ⟨h0, R, h1, h2⟩ := h
  exact ⟨h0, R, h1.below hb, h2⟩
theorem JB.only {w w' : World} {B g : Nat} {l : List E} {S : Nat → Prop} (h : JB w B g l) (ho : Only w w' S) (hS : ∀ i, S i → i < B) : JB w' B g l := by
  obtain ⟨h0, R, h1, h2⟩ := h
  exact ⟨h0, R, h1.only ho (fun hs => by have := hS g hs; omega) (fun i hi hs => by have := hS i hs; have := h2 i hi; omega), h2⟩
theorem jb_append {w : World} {B g : Nat} {l : List E} {x : E} (h : JB w B g l) (hB : B ≤ w.heap.size) (hl : l.length ≤ 1000000) :
    Calls Try.prog 28 #[.pointer (some ⟨g, 0, none⟩), ev x] w fun e w' => e = .returned (.int .i64 (Jou.err l x : Nat)) ∧ JB w' B g (if Jou.err l x = 0 then l ++ [x] else l) ∧ Below B w w' := by
  obtain ⟨h0, R, h1, h2⟩ := h
  refine (append_jany g R l x w h1 hl).mono fun e w' ⟨he, hc⟩ => ⟨he, ?_⟩
  rcases hc with ⟨h3, h4⟩ | ⟨h3, R', g1, g2, g3⟩
  · rw [if_neg h3]
    exact ⟨⟨h0, R, h1.below h4, h2⟩, h4.mono hB⟩
  · rw [if_pos h3]
    refine ⟨⟨h0, R', g1, fun i hi => ?_⟩, g2.below hB (fun i hi => ?_)⟩
    · rcases g3 with g3 | ⟨q, g3, g4⟩
      · exact h2 i (by rw [← g3]; exact hi)
      · rw [g3] at hi; injection hi with hi; omega
    · rcases hi with hi | hi
      · omega
      · exact h2 i hi.symm

set_option maxRecDepth 100000 in
set_option maxHeartbeats 6400000 in
theorem example52_any (w : World) :
    Calls Try.prog 21 #[] w fun e w' => e = .returned (.bool true) ∧ Below w.heap.size w w' := by
  go_enter Try.func21, Try.ntmps21
  go_wp2_with fail
  refine Calls.mono (new_any _) ?_
  rintro e w1 ⟨rfl, J1, b1⟩
  have B1 := hide b1
  have J1 := hide (show JB w1 w.heap.size w.heap.size [] from ⟨Nat.le_refl _, none, J1, fun i hi => by cases hi⟩)
  clear b1
  go_wp2_with fail
  refine Calls.mono (letter_any 300 ⟨#[65]⟩ _) ?_
  rintro e w2 ⟨rfl, b2⟩
  have B2 := hide (chain B1.out b2)
  have J2 := hide (J1.out.below b2)
  clear B1 J1 b2
  unfold ev
  go_wp2_with fail
  refine Calls.mono (jb_append (x := eA) J2.out B2.out.size (by simp)) ?_
  rw [x52_a, if_pos rfl]
  rintro e w3 ⟨rfl, J3', b3⟩
  have B3 := hide (B2.out.trans b3)
  have J3 := hide J3'
  clear B2 J2 b3 J3'
  go_wp2_with fail
  refine Calls.mono (jbytes_any _ [eA] _ J3.out.read x52_c (by simp)) ?_
  intro e w4 h
  obtain ⟨A4, c4, rfl, -, -, b4⟩ := gives_lit h x52_l1
  have B4 := hide (chain B3.out b4)
  have J4 := hide (J3.out.below b4)
  clear h B3 J3 b4
  go_wp2_with fail
  refine Calls.mono (letter_any 299 ⟨#[]⟩ _) ?_
  rintro e w5 ⟨rfl, b5⟩
  have B5 := hide (chain B4.out b5)
  have J5 := hide (J4.out.below b5)
  clear B4 J4 b5
  unfold ev
  go_wp2_with fail
  refine Calls.mono (jb_append (x := eO) J5.out B5.out.size (by simp)) ?_
  rw [show Jou.err ([] ++ [eA]) eO = 8 from x52_o, if_neg (by omega)]
  rintro e w6 ⟨rfl, J6', b6⟩
  have B6 := hide (B5.out.trans b6)
  have J6 := hide J6'
  clear B5 J5 b6 J6'
  go_wp2_with fail
  refine Calls.mono (letter_any 300 ⟨#[66]⟩ _) ?_
  rintro e w7 ⟨rfl, b7⟩
  have B7 := hide (chain B6.out b7)
  have J7 := hide (J6.out.below b7)
  clear B6 J6 b7
  unfold ev
  go_wp2_with fail
  refine Calls.mono (jb_append (x := eB) J7.out B7.out.size (by simp)) ?_
  rw [show Jou.err ([] ++ [eA]) eB = 0 from x52_b, if_pos rfl]
  rintro e w8 ⟨rfl, J8', b8⟩
  have B8 := hide (B7.out.trans b8)
  have J8 := hide (show JB w8 w.heap.size w.heap.size [eA, eB] from J8')
  clear B7 J7 b8 J8'
  go_wp2_with fail
  refine Calls.mono (jbytes_any _ [eA, eB] _ J8.out.read x52_c2 (by simp)) ?_
  intro e w9 h
  obtain ⟨A9, c9, rfl, hc9, L9', b9⟩ := gives_lit h x52_l2
  have B9 := hide (chain B8.out b9)
  have J9 := hide (J8.out.below b9)
  have L9 := hide L9'
  obtain ⟨b, o, rfl, -, -⟩ := L9' (by rw [bytes_len, x52_l2]; omega)
  clear h B8 J8 b9 L9'
  have hM : Hid ((encJ [eA, eB]).length = 18) := hide x52_l2
  have hT : Hid (((encJ [eA, eB]).take 17).length = 17) := hide (by rw [List.length_take, x52_l2]; rfl)
  have RT := hide x52_t
  have RM := hide x52_r
  generalize encJ [eA, eB] = M at L9 hM hT RT RM
  go_wp2_with fail
  refine Calls.mono (recover_any _ 17 c9 (M.take 17) _ hT.out.symm (by rw [hT.out]; omega) (by omega) (lie_take L9.out 17)) ?_
  rw [RT.out]
  rintro e w10 ⟨g10, R10, rfl, j10, b10, k10, k10'⟩
  have JR10 := hide (show JB w10 w9.heap.size g10 [eA] from ⟨k10, R10, j10, k10'⟩)
  have B10 := hide (chain B9.out b10)
  have J10 := hide (J9.out.below b10)
  have L10 := hide (L9.out.on b10)
  have z10 : w9.heap.size ≤ w10.heap.size := b10.size
  have z9 : w.heap.size < w9.heap.size := J9.out.read.lt
  clear j10 b10 k10 k10' J9 L9 B9
  simp only
  go_wp2_with fail
  refine Calls.mono (load_any _ 17 c9 (M.take 17) _ hT.out.symm (by rw [hT.out]; omega) (by omega) (lie_take L10.out 17)) ?_
  rw [RT.out]
  rintro e w11 h
  obtain ⟨rfl, b11⟩ : e = .returned (.tuple #[.pointer none, .int .i64 (4 : Nat)]) ∧ Below w10.heap.size w10 w11 := by
    rcases h with ⟨_, h1, h2⟩ | ⟨h1, _⟩
    · exact ⟨h1, h2⟩
    · cases h1
  have JR11 := hide (JR10.out.below b11)
  have B11 := hide (chain B10.out b11)
  have J11 := hide (J10.out.below b11)
  have L11 := hide (L10.out.on b11)
  have z11 : w9.heap.size ≤ w11.heap.size := Nat.le_trans z10 b11.size
  clear h b11 JR10 B10 J10 L10 z10
  go_wp2_with fail
  refine Calls.mono (load_any _ 18 c9 M _ hM.out.symm (by rw [hM.out]; omega) hc9 L11.out) ?_
  rw [RM.out]
  rintro e w12 h
  obtain ⟨g12, rfl, jm, b12⟩ : ∃ g12, e = .returned (.tuple #[.pointer (some ⟨g12, 0, none⟩), .int .i64 0]) ∧ JB w12 w9.heap.size g12 [eA, eB] ∧ Below w11.heap.size w11 w12 := by
    rcases h with ⟨h1, _⟩ | ⟨_, g, R, h1, h2, h3, h4, h5⟩
    · exact absurd h1 (by simp)
    · exact ⟨g, h1, ⟨by omega, R, h2, fun i hi => by have := h5 i hi; omega⟩, h3⟩
  have JM12 := hide jm
  have JR12 := hide (JR11.out.below b12)
  have B12 := hide (chain B11.out b12)
  have J12 := hide (J11.out.below b12)
  clear h b12 JR11 B11 J11 L11 jm hM hT RT RM
  go_wp2_with fail
  refine Calls.mono (len_any _ [eA] _ JR12.out.read) ?_
  rintro e w13 ⟨rfl, rfl⟩
  go_wp2_with fail
  refine Calls.mono (truncate_yes _ [eA, eB] 1 _ J12.out.read (by simp) (by simp)) ?_
  rintro e w14 ⟨rfl, t14, o14⟩
  have JM14 := hide (JM12.out.only o14 (fun i hi => by omega))
  have J14 := hide (show JR w14 w.heap.size [eA] from t14)
  have B14 := hide (B12.out.trans (o14.below B12.out.size (fun i hi => by omega)))
  clear t14 o14 JM12 J12 B12 JR12
  go_wp2_with fail
  refine Calls.mono (truncate_no _ [eA] 2 _ J14.out (by simp)) ?_
  rintro e w15 ⟨rfl, rfl⟩
  go_wp2_with fail
  refine Calls.mono (entries_any _ [eA, eB] _ JM14.out.read (by simp)) ?_
  intro e w16 h
  obtain ⟨A16, c16, rfl, -, L16', b16⟩ := givesE_lit h (n := 2) rfl
  have L16 := hide L16'
  have J16 := hide (J14.out.below b16)
  have B16 := hide (chain B14.out b16)
  clear h b16 L16' J14 B14 JM14
  go_wp2_with fail
  refine Calls.mono (letter_any 300 ⟨#[65]⟩ _) ?_
  rintro e w17 ⟨rfl, b17⟩
  have L17 := hide (L16.out.on b17)
  have J17 := hide (J16.out.below b17)
  have B17 := hide (chain B16.out b17)
  clear b17 L16 J16 B16
  unfold ev
  go_wp2_with fail
  refine Calls.mono (letter_any 300 ⟨#[66]⟩ _) ?_
  rintro e w18 ⟨rfl, b18⟩
  have L18 := hide (L17.out.on b18)
  have J18 := hide (J17.out.below b18)
  have B18 := hide (chain B17.out b18)
  clear b18 L17 J17 B17
  unfold ev
  go_wp2_with fail
  refine Calls.mono (jsame_any A16 (some ⟨w18.heap.size, 0, none⟩) 2 2 c16 2 [eA, eB] _ rfl rfl (by simp) (L18.out.on (below_new w18 (.cells (flat [eA, eB]).toArray 36))) ((Lie.new w18 (flat [eA, eB]) 36).more (by simp))) ?_
  rintro e w19 ⟨rfl, b19⟩
  have b19 := chain (below_new w18 (.cells (flat [eA, eB]).toArray 36)) b19
  have J19 := hide (J18.out.below b19)
  have B19 := hide (chain B18.out b19)
  clear b19 L18 J18 B18
  go_wp2_with fail
  refine Calls.mono (len_any _ [eA] _ J19.out) ?_
  rintro e w20 ⟨rfl, rfl⟩
  go_wp2_with fail
  refine Calls.mono (letter_any 1 ⟨#[]⟩ _) ?_
  rintro e w21 ⟨rfl, b21⟩
  have B21 := hide (chain B19.out b21)
  clear b21 B19 J19
  unfold ev
  go_wp2_with fail
  refine Calls.mono (append_jnil ⟨1, 1, ⟨#[]⟩⟩ _) ?_
  rintro e w22 ⟨rfl, b22⟩
  have B22 := hide (chain B21.out b22)
  clear b22 B21
  go_wp2_with fail
  refine Calls.mono (truncate_nil 0 _) ?_
  rintro e w23 ⟨rfl, rfl⟩
  go_wp2_with fail
  refine Calls.mono (len_nil _) ?_
  rintro e w23 ⟨rfl, rfl⟩
  go_wp2_with fail
  refine Calls.mono (jbytes_nil _) ?_
  rintro e w23 ⟨rfl, rfl⟩
  go_wp2_with fail
  refine Calls.mono (entries_nil _) ?_
  rintro e w23 ⟨rfl, rfl⟩
  go_wp2_with fail
  go_ret
  exact ⟨rfl, B22.out⟩
end Go.Proofs.Ytjbdfmniiiaakaa
