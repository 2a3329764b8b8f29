/- The journal's Append: the error of a refused entry, or the journal with the entry behind its others. -/
import Derived.Test.YtjbdfmniiiaakaaJo
namespace Go.Proofs.Ytjbdfmniiiaakaa
set_option linter.unusedVariables false
open Go.RowKit
open Ent (E)

set_option maxRecDepth 100000 in
set_option maxHeartbeats 3200000 in
theorem append_err (g : Nat) (l : List E) (x : E) (w : World) (h : JR w g l) (hl : l.length ≤ 1000000) (he : Jou.err l x ≠ 0) :
    Calls Try.prog 28 #[.pointer (some ⟨g, 0, none⟩), ev x] w fun e w' => e = .returned (.int .i64 (Jou.err l x : Nat)) ∧ Below w.heap.size w w' := by
  have HR := fun W (hb : Below w.heap.size w W) => refuse_any g l x W (h.below hb) hl
  generalize Jou.err l x = n at HR he ⊢
  have hne : ((n : Int) != 0) = true := by simp; exact he
  obtain ⟨k, t, s⟩ := x
  unfold ev at *
  simp only at HR
  have HR' := hide HR
  have hK := hide (Kp.new w 36 #[.int .i64 k, .int .i64 t, .string s])
  clear h he HR
  go_enter Try.func28, Try.ntmps28
  go_wp2_with fail
  generalize w.alloc (.cells #[.int .i64 k, .int .i64 t, .string s] 36) = wa at *
  refine Calls.mono (HR'.out _ hK.out.1) ?_
  rintro e w1 ⟨rfl, b1⟩
  go_wp2_with fail
  go_ret
  exact ⟨rfl, chain hK.out.1 b1⟩

/-- what Append leaves of the journal. -/
def Grows (w w' : World) (g : Nat) (R : Option Nat) (l : List E) : Prop :=
  ∃ R', JAt w' g R' l ∧ Only w w' (fun i => i = g ∨ some i = R) ∧ (R' = R ∨ ∃ r, R' = some r ∧ w.heap.size ≤ r)
theorem grows_mk {w W w1 : World} {g c c' : Nat} {R : Option Nat} {A A' : Option Addr} {l : List E} {x : E} (hb : Below w.heap.size w W) (hB : Blk W g 88 #[.slice A l.length c]) (hR : (Value.slice A l.length c).ownBlock = R) (hne : R ≠ some g)
    (h : Apped W w1 0 36 3 A A' l.length c (l.length + 1) c' (flat l ++ ecells x)) : Grows w (w1.setCell ⟨g, 0, none⟩ (.slice A' (l.length + 1) c')) g R (l ++ [x]) := by
  have ho := Only.of_grown h.grown
  rw [hR] at ho
  have hB1 := ho.blk hB (fun he => hne he.symm)
  have hs := hB1.store 0 (.slice A' (l.length + 1) c')
  have hlen : (l ++ [x]).length = l.length + 1 := by simp
  have hfl : flat (l ++ [x]) = flat l ++ ecells x := by rw [flat_append, flat_one]
  have own := h.own
  have hne' : (Value.slice A' (l.length + 1) c').ownBlock ≠ some g := by
    rcases h.place with hp | hp
    · rw [hp, hR]; exact hne
    · rw [hp]; intro he; have := hB.lt; simp at he; omega
  refine ⟨(Value.slice A' (l.length + 1) c').ownBlock, ⟨A', c', by rw [hlen]; exact hs, ?_, by rw [hlen]⟩, ?_, ?_⟩
  · rw [hlen, hfl]
    exact ((Only.refl w1 (· = g)).setCell (p := ⟨g, 0, none⟩) (.inl rfl) _).own own (fun i hi he => hne' (by rw [hi, he]))
  · exact ((((Only.of_below hb _).trans ho (fun i hi _ => .inr hi))).setCell (p := ⟨g, 0, none⟩) (.inl (.inl rfl)) _)
  · rcases h.place with hp | hp
    · exact .inl (hp.trans hR)
    · exact .inr ⟨_, hp, hb.size⟩

set_option maxRecDepth 100000 in
set_option maxHeartbeats 6400000 in
theorem append_ok (g : Nat) (R : Option Nat) (l : List E) (x : E) (w : World) (h : JAt w g R l) (hl : l.length ≤ 1000000) (he : Jou.err l x = 0) :
    Calls Try.prog 28 #[.pointer (some ⟨g, 0, none⟩), ev x] w fun e w' => e = .returned (.int .i64 0) ∧ Grows w w' g R (l ++ [x]) := by
  have HR := fun W (hb : Below w.heap.size w W) => refuse_any g l x W (h.read.below hb) hl
  rw [he] at HR
  obtain ⟨i0, hi, hz0, hz1, hz2⟩ := info_parts info_e
  obtain ⟨k, t, s⟩ := x
  unfold ev at *
  simp only at HR
  have HR' := hide HR
  have hK := hide (Kp.new w 36 #[.int .i64 k, .int .i64 t, .string s])
  have hJ := hide h
  clear h he HR
  go_enter Try.func28, Try.ntmps28
  go_upto_region 4 with fail
  generalize w.alloc (.cells #[.int .i64 k, .int .i64 t, .string s] 36) = wa at *
  refine Calls.mono (HR'.out _ hK.out.1) ?_
  rintro e w2 ⟨rfl, b2⟩
  have K2 := hide (hK.out.next b2)
  obtain ⟨A, c, hB', ho', hR'⟩ := hJ.out.below K2.out.1
  have hne := hide hJ.out.ne
  have hB := hide hB'
  have ho := hide ho'
  have hR := hide hR'
  have c0 : w2.cell? ⟨g, 0, none⟩ = some (.slice A l.length c) := hB'.cell 0
  obtain ⟨d0, d1, d2⟩ := K2.out.cells
  have n0 : ∀ o, (w2.alloc o).cell? ⟨g, 0, none⟩ = some (.slice A l.length c) := fun o => (hB'.alloc o).cell 0
  have n1 : ∀ o, (w2.drew.alloc o).cell? ⟨g, 0, none⟩ = some (.slice A l.length c) := fun o => ((show Blk w2.drew g _ _ from hB').alloc o).cell 0
  clear hB' ho' hR' hK b2 HR'
  go_upto_region 6 with fail
  go_region_law (first
    | (refine step_app (by rfl) (.tmp 18) (.tmp 20) _ (by rfl) 0 36 i0 _ 3 32 Try.underlying32 hi hz0 hz1 hz2 rfl (by omega) A l.length c (flat l) (by rfl) (ho.out.alloc _) _ (some ⟨w2.heap.size, 0, none⟩) 1 1 (ecells ⟨k, t, s⟩) (by rfl) rfl (Lie.new w2.drew (ecells ⟨k, t, s⟩) 36) (flat_mem [⟨k, t, s⟩]) (by omega) (by unfold maxLen; omega) (Nat.zero_le _) w2 (Below.mono (B := w2.heap.size) ((Below.refl _ _).drew.alloc (Nat.le_refl _) _) (Nat.zero_le _)) ?_
       intro A3 c3 w3 HA3 hb3
       have hB3 := (Only.of_grown HA3.out.grown).blk (hB.out.alloc _) (by rw [hR.out]; exact fun he => hne.out he.symm)
       have e3 : w3.cell? ⟨g, 0, none⟩ = some (.slice A l.length c) := hB3.cell 0
       have f3 := hB3.free 0
       clear hB3))
  all_goals (
    go_wp2_with fail
    go_ret
    exact ⟨rfl, grows_mk (chain K2.out.1 ((below_new w2 _).drew)) (hB.out.alloc _) hR.out hne.out HA3.out⟩)

/-- Append, whatever the entry. -/
def Appends (w : World) (g : Nat) (R : Option Nat) (l : List E) (x : E) (e : Ending) (w' : World) : Prop :=
  e = .returned (.int .i64 (Jou.err l x : Nat)) ∧ ((Jou.err l x ≠ 0 ∧ Below w.heap.size w w') ∨ (Jou.err l x = 0 ∧ Grows w w' g R (l ++ [x])))
theorem append_jany (g : Nat) (R : Option Nat) (l : List E) (x : E) (w : World) (h : JAt w g R l) (hl : l.length ≤ 1000000) :
    Calls Try.prog 28 #[.pointer (some ⟨g, 0, none⟩), ev x] w (Appends w g R l x) := by
  by_cases he : Jou.err l x = 0
  · refine (append_ok g R l x w h hl he).mono fun e w' ⟨h1, h2⟩ => ⟨by rw [he]; exact h1, .inr ⟨he, h2⟩⟩
  · exact (append_err g l x w h.read hl he).mono fun e w' ⟨h1, h2⟩ => ⟨h1, .inl ⟨he, h2⟩⟩
set_option maxRecDepth 100000 in
theorem append_jnil (x : E) (w : World) : Calls Try.prog 28 #[.pointer none, ev x] w fun e w' => e = .returned (.int .i64 40) ∧ Below w.heap.size w w' := by
  obtain ⟨k, t, s⟩ := x
  unfold ev
  go_enter Try.func28, Try.ntmps28
  go_wp2_with fail
  go_ret
  exact ⟨rfl, below_new _ _⟩
end Go.Proofs.Ytjbdfmniiiaakaa
