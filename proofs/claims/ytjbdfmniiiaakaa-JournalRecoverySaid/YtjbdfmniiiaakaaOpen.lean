/- The law's parameters that are entries or slices of entries, as data and as cells. No condition. -/
import Derived.Test.YtjbdfmniiiaakaaFlat
import Derived.Lib.SmallJoins
import Derived.Deep.Slices
import Derived.Deep.Strs
namespace Go.Proofs.Ytjbdfmniiiaakaa
set_option linter.unusedVariables false
open Go.ChangeShapes Go.WideShapes Go.RowKit Go.Deep Go.Joins
open Ent (E)

theorem entry_cells : Try.prog.cellsOf 36 = 3 := by kernel_rfl
theorem list3 {α : Type} {l : List α} (h : l.length = 3) : ∃ a b c, l = [a, b, c] := by
  match l, h with
  | [a, b, c], _ => exact ⟨a, b, c, rfl⟩
theorem fits_of {n : Int} (h : (Lit.int .i64 n).wf = true) : Fits n := fits_wf h
section
variable {H : Type} {enc : TypeId × Value → H} {w : World} {base : Nat} {spare : Nat → Bool} {held : Bool}
set_option maxRecDepth 100000 in
theorem open_ev {r : Reach} {b0 : Nat} {v : Value} {d : DataW H} {p : List MemPlace} (hv : Value.okWide Try.prog w r b0 36 v) (h : DataW.Trod enc Try.prog w base spare held 36 v d p) : ∃ x : E, v = ev x ∧ GoodE x := by
  obtain ⟨c0, c1, c2, y0, y1, y2, m, rfl, rfl, rfl, hy0, hy1, hy2⟩ := open_agg3 Try.underlying36 (by kernel_rfl) entry_cells hv h
  obtain ⟨k, e0, rfl, wk⟩ := DataW.trod_int Try.underlying3 hy0
  obtain ⟨t, e1, rfl, wt⟩ := DataW.trod_int Try.underlying3 hy1
  obtain ⟨s, e2, rfl, ws⟩ := DataW.trod_string Try.underlying9 hy2
  simp at e0 e1 e2
  subst e0 e1 e2
  exact ⟨⟨k, t, s⟩, rfl, fits_of wk, fits_of wt, ws⟩
set_option maxRecDepth 100000 in
theorem open_cells {n : Nat} {cs : List Value} {x : DataW H × List MemPlace} (h : DataW.trod enc Try.prog w base spare held n 36 cs = some x) : ∃ x : E, cs = ecells x ∧ GoodE x := by
  obtain ⟨y0, y1, y2, m, -, hl, h0, h1, h2⟩ := trod_struct3 Try.underlying36 h
  rw [entry_cells] at hl
  obtain ⟨c0, c1, c2, rfl⟩ := list3 hl
  · obtain ⟨k, e0, -, wk⟩ := DataW.trod_int Try.underlying3 h0
    obtain ⟨t, e1, -, wt⟩ := DataW.trod_int Try.underlying3 h1
    obtain ⟨s, e2, -, ws⟩ := DataW.trod_string Try.underlying9 h2
    have q0 : Try.prog.cellsOf 3 = 1 := by kernel_rfl
    have q1 : Try.prog.cellsOf 9 = 1 := by kernel_rfl
    simp [q0] at e0 e1
    simp [q1] at e2
    subst e0 e1 e2
    exact ⟨⟨k, t, s⟩, rfl, fits_of wk, fits_of wt, ws⟩
set_option maxRecDepth 100000 in
theorem open_ents {a : Option Addr} {len cap : Nat} {d : DataW H} {p : List MemPlace} (h : DataW.Trod enc Try.prog w base spare held 32 (.slice a len cap) d p) : ∃ l : List E, IsEnts w a len cap l := by
  obtain ⟨fuel, hf⟩ := h
  rcases open_slice Try.underlying32 hf with ⟨hcs, _⟩ | ⟨x, l, c, m, n, D, Pl, hcs, _, hl, hm, hmm, _, hx⟩
  · simp [Value.cells] at hcs
    obtain ⟨rfl, rfl, rfl⟩ := hcs
    exact ⟨[], rfl, Nat.le_refl _, by unfold maxLen; omega, fun x hx => by simp at hx, Lie.none_⟩
  · simp [Value.cells] at hcs
    obtain ⟨rfl, rfl, rfl⟩ := hcs
    have hlm : len ≤ m := by rw [hmm]; split <;> omega
    rw [entry_cells] at hx
    haveI : Inhabited E := ⟨Ent.E0⟩
    obtain ⟨f, hfx⟩ := choose_lt (α := E) (n := len) (p := fun i y => GoodE y ∧ ∀ r, r < 3 → w.cell? (x.add (i * 3 + r)) = (ecells y)[r]?) (fun i hi => by
      obtain ⟨cs', h1, h2⟩ := hx i (by omega)
      obtain ⟨y, rfl, hy⟩ := open_cells h2
      refine ⟨y, hy, fun r hr => ?_⟩
      obtain ⟨_, _, hc⟩ := World.cells?_some h1
      have := hc r hr
      rw [Go.Deep.add_add] at this
      exact this)
    refine ⟨(List.range len).map f, by simp, hl, hm, ?_, ?_⟩
    · intro y hy
      obtain ⟨i, hi, rfl⟩ := List.mem_map.1 hy
      exact (hfx i (List.mem_range.1 hi)).1
    · refine lie_row fun j u hu => ?_
      have hj : j < len * 3 := by
        have := (List.getElem?_eq_some_iff.1 hu).1
        rw [flat_len] at this
        simpa using this
      have hi : j / 3 < ((List.range len).map f).length := by simp; omega
      obtain ⟨g0, g1, g2⟩ := flat_get ((List.range len).map f) (j / 3) hi
      have hq := (hfx (j / 3) (by omega)).2
      have e0 : ((List.range len).map f)[j / 3] = f (j / 3) := by simp
      rw [e0] at g0 g1 g2
      rcases (by omega : j = j / 3 * 3 + 0 ∨ j = j / 3 * 3 + 1 ∨ j = j / 3 * 3 + 2) with e | e | e
      · rw [e] at hu ⊢; rw [hq 0 (by omega)]; rw [Nat.add_zero, g0] at hu; exact hu
      · rw [e] at hu ⊢; rw [hq 1 (by omega)]; rw [g1] at hu; exact hu
      · rw [e] at hu ⊢; rw [hq 2 (by omega)]; rw [g2] at hu; exact hu
end
end Go.Proofs.Ytjbdfmniiiaakaa
