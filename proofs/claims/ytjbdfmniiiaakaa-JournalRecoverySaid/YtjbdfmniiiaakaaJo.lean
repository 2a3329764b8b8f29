/- The journal's New, Len, refuse and Append: a new journal, its length, the error of an entry behind those of the journal, and the journal with the entry. -/
import Derived.Test.YtjbdfmniiiaakaaEx51
import Derived.Test.YtjbdfmniiiaakaaFlat
import Derived.Deep.Cut
import Derived.Deep.QuietTactic
import Derived.BigQuiet
import Derived.Deep.RegionLaw
import Derived.Deep.RegionHeld3
namespace Go.Proofs.Ytjbdfmniiiaakaa
set_option linter.unusedVariables false
open Go.RowKit
open Ent (E)

/-- a journal as it reads: its header's block g, its entries. -/
def JR (w : World) (g : Nat) (l : List E) : Prop := ∃ A c, Blk w g 88 #[.slice A l.length c] ∧ l.length ≤ c ∧ Lie w w.heap.size A (flat l)
/-- a journal that is the call's own: its header's block g, its row R, its entries. -/
def JAt (w : World) (g : Nat) (R : Option Nat) (l : List E) : Prop :=
  ∃ A c, Blk w g 88 #[.slice A l.length c] ∧ w.ownsRow 0 36 3 (.slice A l.length c) l.length (flat l) ∧ (Value.slice A l.length c).ownBlock = R
theorem own_le' {w : World} {base e size n c : Nat} {A : Option Addr} {xs : List Value} (h : w.ownsRow base e size (.slice A n c) n xs) : n ≤ c := by
  rcases h.2 with ⟨h1, h2⟩ | ⟨g, cap, cur, hv, hg, hh, h1, h2, _⟩
  · omega
  · simp only [Value.slice.injEq] at hv
    obtain ⟨-, -, rfl⟩ := hv
    exact h1
theorem JAt.read {w : World} {g : Nat} {R : Option Nat} {l : List E} (h : JAt w g R l) : JR w g l := by
  obtain ⟨A, c, h1, h2, h3⟩ := h
  exact ⟨A, c, h1, own_le' h2, Lie.of_own h2⟩
theorem JR.lt {w : World} {g : Nat} {l : List E} (h : JR w g l) : g < w.heap.size := by obtain ⟨A, c, h1, _⟩ := h; exact h1.lt
theorem JR.below {w w' : World} {g : Nat} {l : List E} (h : JR w g l) (hb : Below w.heap.size w w') : JR w' g l := by
  obtain ⟨A, c, h1, h2, h3⟩ := h
  exact ⟨A, c, h1.below hb h1.lt, h2, h3.on hb⟩
theorem JAt.below {w w' : World} {g : Nat} {R : Option Nat} {l : List E} (h : JAt w g R l) (hb : Below w.heap.size w w') : JAt w' g R l := by
  obtain ⟨A, c, h1, h2, h3⟩ := h
  exact ⟨A, c, h1.below hb h1.lt, own_below h2 hb, h3⟩
theorem JAt.drew {w : World} {g : Nat} {R : Option Nat} {l : List E} (h : JAt w g R l) : JAt w.drew g R l := h
theorem JAt.only {w w' : World} {g : Nat} {R : Option Nat} {l : List E} {S : Nat → Prop} (h : JAt w g R l) (ho : Only w w' S) (h1 : ¬ S g) (h2 : ∀ i, R = some i → ¬ S i) : JAt w' g R l := by
  obtain ⟨A, c, h3, h4, h5⟩ := h
  exact ⟨A, c, ho.blk h3 h1, ho.own h4 (fun i hi => h2 i (by rw [← h5]; exact hi)), h5⟩
/-- the row is not the header's block. -/
theorem JAt.ne {w : World} {g : Nat} {R : Option Nat} {l : List E} (h : JAt w g R l) : R ≠ some g := by
  obtain ⟨A, c, h1, h2, rfl⟩ := h
  rcases h2.2 with ⟨hv, _⟩ | ⟨r, cap, cur, hv, _, hh, _⟩
  · rw [hv]; simp [Value.ownBlock]
  · rw [hv]
    intro he
    have : r = g := by simpa [Value.ownBlock] using he
    subst this
    unfold Blk at h1
    rw [h1] at hh
    simp at hh
theorem JAt.row_lt {w : World} {g r : Nat} {l : List E} (h : JAt w g (some r) l) : r < w.heap.size := by
  obtain ⟨A, c, h1, h2, h3⟩ := h
  exact (h2.lt r h3).2

theorem below_dn {B : Nat} {a w : World} (h : Below B a w) (n : Nat) : Below B a (w.drewN n) := h.trans ⟨rfl, rfl, rfl, Nat.le_refl _, fun _ _ => rfl⟩

theorem err_check_ne {l : List E} {e : E} (h : Ent.check e ≠ 0) : Jou.err l e = Ent.check e := by unfold Jou.err; rw [if_pos h]
theorem err_nil {e : E} (h : Ent.check e = 0) : Jou.err [] e = 0 := by unfold Jou.err; rw [if_neg (by simp [h])]; simp
theorem err_order {p : List E} {y e : E} (h : Ent.check e = 0) (ht : e.t < y.t) : Jou.err (p ++ [y]) e = 8 := by unfold Jou.err; rw [if_neg (by simp [h])]; simp [ht]
theorem err_limit {p : List E} {y e : E} (h : Ent.check e = 0) (ht : ¬ e.t < y.t) (hl : 4096 ≤ p.length + 1) : Jou.err (p ++ [y]) e = 5 := by
  unfold Jou.err; rw [if_neg (by simp [h])]; simp [ht]; omega
theorem err_zero {p : List E} {y e : E} (h : Ent.check e = 0) (ht : ¬ e.t < y.t) (hl : ¬ 4096 ≤ p.length + 1) : Jou.err (p ++ [y]) e = 0 := by
  unfold Jou.err; rw [if_neg (by simp [h])]; simp [ht]; omega

set_option maxRecDepth 100000 in
set_option maxHeartbeats 3200000 in
theorem new_any (w : World) : Calls Try.prog 49 #[] w fun e w' => e = .returned (.pointer (some ⟨w.heap.size, 0, none⟩)) ∧ JAt w' w.heap.size none [] ∧ Below w.heap.size w w' := by
  go_enter Try.func49, Try.ntmps49
  go_wp2_with fail
  go_ret
  exact ⟨rfl, ⟨none, 0, Blk.new _ _ _, own_nil, rfl⟩, below_new _ _⟩

set_option maxRecDepth 100000 in
set_option maxHeartbeats 3200000 in
theorem len_any (g : Nat) (l : List E) (w : World) (h : JR w g l) : Calls Try.prog 29 #[.pointer (some ⟨g, 0, none⟩)] w fun e w' => e = .returned (.int .i64 (l.length : Nat)) ∧ w = w' := by
  obtain ⟨A, c, h1, h2, h3⟩ := h
  have c0 : w.cell? ⟨g, 0, none⟩ = some (.slice A l.length c) := h1.cell 0
  clear h1 h3
  go_enter Try.func29, Try.ntmps29
  go_wp2_with fail
  go_ret
  exact ⟨rfl, rfl⟩
set_option maxRecDepth 100000 in
theorem len_nil (w : World) : Calls Try.prog 29 #[.pointer none] w fun e w' => e = .returned (.int .i64 0) ∧ w = w' := by
  go_enter Try.func29, Try.ntmps29
  go_wp2_with fail
  go_ret
  exact ⟨rfl, rfl⟩

set_option maxRecDepth 100000 in
set_option maxHeartbeats 3200000 in
theorem refuse_bad (g : Nat) (l : List E) (x : E) (w : World) (h : JR w g l) (hc : Ent.check x ≠ 0) :
    Calls Try.prog 56 #[.pointer (some ⟨g, 0, none⟩), ev x] w fun e w' => e = .returned (.int .i64 (Jou.err l x : Nat)) ∧ Below w.heap.size w w' := by
  rw [err_check_ne hc]
  have HC := (fun W => check_any x W)
  have hne : ((Ent.check x : Int) != 0) = true := by simp; exact hc
  generalize Ent.check x = n at HC hne ⊢
  obtain ⟨k, t, s⟩ := x
  unfold ev at *
  simp only at HC
  have HC' := hide HC
  clear h hc HC
  go_enter Try.func56, Try.ntmps56
  go_wp2_with fail
  refine Calls.mono (HC'.out _) ?_
  rintro e w1 ⟨rfl, b1⟩
  go_wp2_with fail
  go_ret
  exact ⟨rfl, chain (below_new _ _) b1⟩

set_option maxRecDepth 100000 in
set_option maxHeartbeats 3200000 in
theorem refuse_nil (g : Nat) (x : E) (w : World) (h : JR w g []) (hc : Ent.check x = 0) :
    Calls Try.prog 56 #[.pointer (some ⟨g, 0, none⟩), ev x] w fun e w' => e = .returned (.int .i64 (Jou.err [] x : Nat)) ∧ Below w.heap.size w w' := by
  rw [err_nil hc]
  have HC := (fun W => check_any x W)
  rw [hc] at HC
  obtain ⟨k, t, s⟩ := x
  unfold ev at *
  simp only at HC
  have HC' := hide HC
  have hK := hide (Kp.new w 36 #[.int .i64 k, .int .i64 t, .string s])
  have hJ := hide h
  clear h hc HC
  go_enter Try.func56, Try.ntmps56
  go_wp2_with fail
  generalize w.alloc (.cells #[.int .i64 k, .int .i64 t, .string s] 36) = wa at *
  refine Calls.mono (HC'.out _) ?_
  rintro e w1 ⟨rfl, b1⟩
  have K1 := hide (hK.out.next b1)
  obtain ⟨A, c, h1, h2, h3⟩ := hJ.out.below K1.out.1
  have c0 : w1.cell? ⟨g, 0, none⟩ = some (.slice A 0 c) := h1.cell 0
  obtain ⟨d0, d1, d2⟩ := K1.out.cells
  clear h1 h2 h3 b1 hK hJ
  go_upto_region 5 with fail
  go_quiet (fail)
  go_wp2_with fail
  go_ret
  exact ⟨rfl, below_dn K1.out.1 _⟩

set_option maxRecDepth 100000 in
set_option maxHeartbeats 6400000 in
theorem refuse_last (g : Nat) (p : List E) (y x : E) (w : World) (h : JR w g (p ++ [y])) (hl : p.length ≤ 1000000) (hc : Ent.check x = 0) :
    Calls Try.prog 56 #[.pointer (some ⟨g, 0, none⟩), ev x] w fun e w' => e = .returned (.int .i64 (Jou.err (p ++ [y]) x : Nat)) ∧ Below w.heap.size w w' := by
  have HC := (fun W => check_any x W)
  rw [hc] at HC
  have q1 := fun h1 => err_order (p := p) (y := y) hc h1
  have q2 := fun h1 h2 => err_limit (p := p) (y := y) hc h1 h2
  have q3 := fun h1 h2 => err_zero (p := p) (y := y) hc h1 h2
  obtain ⟨k, t, s⟩ := x
  unfold ev at *
  simp only at HC q1 q2 q3
  generalize Jou.err (p ++ [y]) ⟨k, t, s⟩ = er at q1 q2 q3 ⊢
  have HC' := hide HC
  have q1' := hide q1
  have q2' := hide q2
  have q3' := hide q3
  have hK := hide (Kp.new w 36 #[.int .i64 k, .int .i64 t, .string s])
  have hJ := hide h
  clear h hc HC q1 q2 q3
  go_enter Try.func56, Try.ntmps56
  go_wp2_with fail
  generalize w.alloc (.cells #[.int .i64 k, .int .i64 t, .string s] 36) = wa at *
  refine Calls.mono (HC'.out _) ?_
  rintro e w1 ⟨rfl, b1⟩
  have K1 := hide (hK.out.next b1)
  obtain ⟨A, c, h1, h2, h3⟩ := hJ.out.below K1.out.1
  have hlen : (p ++ [y]).length = p.length + 1 := by simp
  obtain ⟨b, o, rfl, hb, -, e1, -⟩ := h3.entry p.length (by omega)
  rw [List.getElem_append_right (Nat.le_refl _)] at e1
  simp only [Nat.sub_self, List.getElem_cons_zero] at e1
  rw [hlen] at h1 h2
  have c0 : w1.cell? ⟨g, 0, none⟩ = some (.slice (some ⟨b, o, none⟩) (p.length + 1) c) := h1.cell 0
  obtain ⟨d0, d1, d2⟩ := K1.out.cells
  generalize y.t = yt at *
  generalize p.length = n at *
  clear h1 h3 b1 hK hJ hlen
  go_upto_region 5 with fail
  have i1 : (0 : Int) < (n : Int) + 1 := by omega
  have i2 : IntKind.i64.wrap ((n : Int) + 1 - 1) = (n : Int) := by rw [IntWalk.i64_in _ (by omega)]; omega
  by_cases h4 : t < yt
  · have h5 := hide (q1'.out h4)
    clear q1' q2' q3'
    go_quiet (fail)
    clear i2
    go_wp2_with fail
    go_ret
    exact ⟨by rw [h5.out]; rfl, below_dn K1.out.1 _⟩
  · by_cases h6 : 4096 ≤ n + 1
    · have h5 := hide (q2'.out (by omega) (by omega))
      clear q1' q2' q3'
      go_quiet (fail)
      clear i2
      go_wp2_with fail
      go_ret
      exact ⟨by rw [h5.out]; rfl, below_dn K1.out.1 _⟩
    · have h5 := hide (q3'.out (by omega) (by omega))
      clear q1' q2' q3'
      go_quiet (fail)
      clear i2
      go_wp2_with fail
      go_ret
      exact ⟨by rw [h5.out]; rfl, below_dn K1.out.1 _⟩

theorem refuse_any (g : Nat) (l : List E) (x : E) (w : World) (h : JR w g l) (hl : l.length ≤ 1000000) :
    Calls Try.prog 56 #[.pointer (some ⟨g, 0, none⟩), ev x] w fun e w' => e = .returned (.int .i64 (Jou.err l x : Nat)) ∧ Below w.heap.size w w' := by
  by_cases hc : Ent.check x = 0
  · rcases List.eq_nil_or_concat l with rfl | ⟨p, y, rfl⟩
    · exact refuse_nil g x w h hc
    · rw [List.concat_eq_append] at h hl ⊢
      exact refuse_last g p y x w h (by simp at hl; omega) hc
  · exact refuse_bad g l x w h hc
end Go.Proofs.Ytjbdfmniiiaakaa
