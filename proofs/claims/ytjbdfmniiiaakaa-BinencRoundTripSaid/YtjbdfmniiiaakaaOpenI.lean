/- The parameter of BinencRoundTrip: a slice of items, as data and as cells. No condition. -/
import Derived.Test.YtjbdfmniiiaakaaItm
import Derived.Lib.SmallJoins
import Derived.Deep.Slices
import Derived.Deep.Strs
import Derived.ChangeSlices
namespace Go.Proofs.Ytjbdfmniiiaakaa
set_option linter.unusedVariables false
open Go.ChangeShapes Go.WideShapes Go.RowKit Go.Deep Go.Joins

theorem item_cells : Try.prog.cellsOf 45 = 5 := by kernel_rfl
theorem list5 {α : Type} {l : List α} (h : l.length = 5) : ∃ a b c d e, l = [a, b, c, d, e] := by
  match l, h with
  | [a, b, c, d, e], _ => exact ⟨a, b, c, d, e, rfl⟩
theorem fits_ofI {n : Int} (h : (Lit.int .i64 n).wf = true) : Fits n := fits_wf h
theorem u64_of {n : Int} (h : (Lit.int .u64 n).wf = true) : ∃ k : Nat, n = k ∧ k < 18446744073709551616 := by
  simp only [Lit.wf, Bool.and_eq_true, decide_eq_true_eq] at h
  have hmin : IntKind.u64.min = 0 := rfl
  have hmax : IntKind.u64.max = 18446744073709551615 := rfl
  rw [hmin, hmax] at h
  exact ⟨n.toNat, by omega, by omega⟩
section
variable {H : Type} {enc : TypeId × Value → H} {w : World} {base : Nat} {spare : Nat → Bool} {held : Bool}
theorem trod_struct5 {P : Program} {t : TypeId} {f0 f1 f2 f3 f4 : Field} {fuel : Nat} {cs : List Value} {x : DataW H × List MemPlace} (ht : P.underlying t = some (.struct #[f0, f1, f2, f3, f4])) (h : DataW.trod enc P w base spare held fuel t cs = some x) :
    ∃ y0 y1 y2 y3 y4 n, cs.length = P.cellsOf t ∧ DataW.trod enc P w base spare held n f0.type ((cs.drop f0.offset).take (P.cellsOf f0.type)) = some y0 ∧
      DataW.trod enc P w base spare held n f1.type ((cs.drop f1.offset).take (P.cellsOf f1.type)) = some y1 ∧ DataW.trod enc P w base spare held n f2.type ((cs.drop f2.offset).take (P.cellsOf f2.type)) = some y2 ∧
      DataW.trod enc P w base spare held n f3.type ((cs.drop f3.offset).take (P.cellsOf f3.type)) = some y3 ∧ DataW.trod enc P w base spare held n f4.type ((cs.drop f4.offset).take (P.cellsOf f4.type)) = some y4 := by
  obtain ⟨xs, n, _, rfl, hl, hlen, hf⟩ := DataW.trod_struct ht h
  match xs, hlen with
  | [y0, y1, y2, y3, y4], _ => exact ⟨y0, y1, y2, y3, y4, n, hl, by simpa using hf 0 f0 rfl, by simpa using hf 1 f1 rfl, by simpa using hf 2 f2 rfl, by simpa using hf 3 f3 rfl, by simpa using hf 4 f4 rfl⟩
/-- a field that is a slice of integers. -/
theorem open_rowF {P : Program} {t e : TypeId} {k : IntKind} {n : Nat} {c : Value} {x : DataW H × List MemPlace} (ht : P.underlying t = some (.slice e)) (he : P.underlying e = some (.int k)) (hc : P.cellsOf e = 1)
    (h : DataW.trod enc P w base (fun _ => true) held n t [c] = some x) : ∃ A len cap zs, c = .slice A len cap ∧ IsRow k w A len cap zs := by
  rcases open_ints ht he hc h with ⟨hcs, _⟩ | ⟨x, l, c', zs, hcs, _, hl, hm, hz, _, hcell, hwz⟩
  · simp at hcs
    subst hcs
    exact ⟨none, 0, 0, [], rfl, .inl ⟨rfl, rfl, rfl, rfl⟩⟩
  · simp at hcs
    subst hcs
    exact ⟨_, _, _, zs, rfl, .inr ⟨_, rfl, hl, hm, by simpa using hz, hcell, hwz⟩⟩
set_option maxRecDepth 100000 in
theorem open_item {n : Nat} {cs : List Value} {x : DataW H × List MemPlace} (h : DataW.trod enc Try.prog w base (fun _ => true) held n 45 cs = some x) : ∃ x : It, cs = icells x ∧ GoodI w w.heap.size x := by
  obtain ⟨y0, y1, y2, y3, y4, m, hl, h0, h1, h2, h3, h4⟩ := trod_struct5 Try.underlying45 h
  rw [item_cells] at hl
  obtain ⟨c0, c1, c2, c3, c4, rfl⟩ := list5 hl
  have q0 : Try.prog.cellsOf 42 = 1 := by kernel_rfl
  have q1 : Try.prog.cellsOf 3 = 1 := by kernel_rfl
  have q2 : Try.prog.cellsOf 22 = 1 := by kernel_rfl
  have q3 : Try.prog.cellsOf 4 = 1 := by kernel_rfl
  have q4 : Try.prog.cellsOf 43 = 1 := by kernel_rfl
  obtain ⟨u, e0, -, wu⟩ := DataW.trod_int Try.underlying42 h0
  obtain ⟨k, e1, -, wk⟩ := DataW.trod_int Try.underlying3 h1
  simp [q2] at h2
  simp [q4] at h4
  obtain ⟨sA, sl, sc, zs, rfl, r2⟩ := open_rowF Try.underlying22 Try.underlying5 (by kernel_rfl) h2
  obtain ⟨v, e3, -⟩ := DataW.trod_bool Try.underlying4 h3
  obtain ⟨lA, ll, lc, zl, rfl, r4⟩ := open_rowF Try.underlying43 Try.underlying3 (by kernel_rfl) h4
  simp [q0] at e0
  simp [q1] at e1
  simp [q3] at e3
  subst e0 e1 e3
  obtain ⟨k0, rfl, hk0⟩ := u64_of wu
  obtain ⟨s, rfl, hs, hS⟩ := row_bytes r2
  obtain ⟨L, rfl, hL, hf, hI⟩ := row_ints r4
  exact ⟨⟨k0, k, sA, sc, s, v, lA, lc, L⟩, rfl, hk0, fits_ofI wk, hs, hS, hL, hf, hI⟩

/-- what a walk is told of a slice of items that came in. -/
structure IsItems (w : World) (a : Option Addr) (len cap : Nat) (l : List It) : Prop where
  num : l.length = len
  le : len ≤ cap
  most : cap ≤ maxLen
  good : ∀ x ∈ l, GoodI w w.heap.size x
  lie : Lie w w.heap.size a (iflat l)

set_option maxRecDepth 100000 in
theorem open_items {a : Option Addr} {len cap : Nat} {d : DataW H} {p : List MemPlace} (h : DataW.Trod enc Try.prog w base (fun _ => true) held 41 (.slice a len cap) d p) : ∃ l : List It, IsItems w a len cap l := by
  obtain ⟨fuel, hf⟩ := h
  rcases open_slice Try.underlying41 hf with ⟨hcs, _⟩ | ⟨x, l, c, m, n, D, Pl, hcs, _, hl, hm, hmm, _, hx⟩
  · simp [Value.cells] at hcs
    obtain ⟨rfl, rfl, rfl⟩ := hcs
    exact ⟨[], rfl, Nat.le_refl _, by unfold maxLen; omega, fun x hx => by simp at hx, Lie.none_⟩
  · simp [Value.cells] at hcs
    obtain ⟨rfl, rfl, rfl⟩ := hcs
    have hlm : len ≤ m := by rw [hmm]; split <;> omega
    rw [item_cells] at hx
    haveI : Inhabited It := ⟨⟨0, 0, none, 0, [], false, none, 0, []⟩⟩
    obtain ⟨f, hfx⟩ := choose_lt (α := It) (n := len) (p := fun i y => GoodI w w.heap.size y ∧ ∀ r, r < 5 → w.cell? (x.add (i * 5 + r)) = (icells y)[r]?) (fun i hi => by
      obtain ⟨cs', h1, h2⟩ := hx i (by omega)
      obtain ⟨y, rfl, hy⟩ := open_item h2
      refine ⟨y, hy, fun r hr => ?_⟩
      obtain ⟨_, _, hc⟩ := World.cells?_some h1
      have := hc r hr
      rw [Go.Deep.add_add] at this
      exact this)
    refine ⟨(List.range len).map f, by simp, hl, hm, ?_, ?_⟩
    · intro y hy
      obtain ⟨i, hi, rfl⟩ := List.mem_map.1 hy
      exact (hfx i (List.mem_range.1 hi)).1
    · refine lie_row fun j u hu => ?_
      have hj : j < len * 5 := by
        have := (List.getElem?_eq_some_iff.1 hu).1
        rw [iflat_len] at this
        simpa using this
      have hi : j / 5 < ((List.range len).map f).length := by simp; omega
      have hq := (hfx (j / 5) (by omega)).2 (j % 5) (by omega)
      have e0 : ((List.range len).map f)[j / 5] = f (j / 5) := by simp
      have hg := iflat_get ((List.range len).map f) (j / 5) hi (j % 5) (by omega)
      rw [e0] at hg
      have e : j / 5 * 5 + j % 5 = j := by omega
      rw [e] at hq hg
      rw [hq, ← hg]
      exact hu
end
end Go.Proofs.Ytjbdfmniiiaakaa
